/- Rounds of a range over a function: what the machine's relation keeps while others turn blocks that hold no cells; the assignments at a round's head. No condition. -/
import Derived.Test.YtmbdamompcdolaaDoorEvr
import Derived.Test.YtmbdamompcdolaaDoorEv2
import Derived.Test.YtmbdamompcdolaaDoorEv9
set_option linter.unusedVariables false
set_option linter.unusedSimpArgs false
set_option linter.unusedSectionVars false
namespace Go.Q
open Go.RowKit
variable [Known]
section
variable {P : Program} {w W : World} {g : Gh} {μ : List Nat} {nt : Nat} {env : List D} {st : St} {a : Act}

/-! ### Where what is there stays -/
structure UpW (w w' : World) (L : Nat → Nat) : Prop where
  cell : ∀ b o v, o < L b → w.cell? ⟨b, o, none⟩ = some v → w'.cell? ⟨b, o, none⟩ = some v
theorem RelV.up {w w' : World} {L : Nat → Nat} (hu : UpW w w' L) {x : V} {v : Value} (h : RelV w L x v) : RelV w' L x v := by
  induction h with
  | bool b => exact .bool b
  | int k n => exact .int k n
  | str s => exact .str s
  | slc0 sz a c => exact .slc0 sz a c
  | slc sz xs b o c f h1 h2 h3 h4 h5 h6 ih =>
    exact .slc sz xs b o c f h1 h2 h3 (fun i j hi hj => hu.cell b _ _ (h3 i j hi hj) (h4 i j hi hj)) h5 ih
  | agg xs cs hl hk hr ih => exact .agg xs cs hl hk ih
  | nilp => exact .nilp
  | nili => exact .nili
  | nilf => exact .nilf
  | nilm => exact .nilm
  | iface t x v h ih => exact .iface t x v ih
  | fn f => exact .fn f
  | pt xs b o f h1 h2 h3 h4 ih =>
    exact .pt xs b o f h1 (fun j hj => hu.cell b _ _ (h1 j hj) (h2 j hj)) h3 ih
/-- the world turns where nothing is held -/
theorem RelD.up {w w' : World} {g : Gh} {pl : Nat → Pl} {d : D} {v : Value} (hu : UpW w w' g.L) (h : RelD w g pl d v)
    (hc : ∀ b o, (w.cell? ⟨b, o, none⟩).isSome = true → (w'.cell? ⟨b, o, none⟩).isSome = true ∧ (w.frozen? ⟨b, o, none⟩ = false → w'.frozen? ⟨b, o, none⟩ = false)) : RelD w' g pl d v := by
  induction h with
  | v pl x v h => exact .v pl x v (h.up hu)
  | nils pl z => exact .nils pl z
  | lin pl z xs v h hs =>
    refine .lin pl z xs v (h.up hu) ?_
    cases v <;> first | exact hs.elim | skip
    rename_i a n c
    rcases hs with hs | ⟨b, o, h1, h2, h3, h4, h5⟩
    · exact .inl hs
    · exact .inr ⟨b, o, h1, h2, h3, h4, fun j hj => ⟨(hc _ _ (h5 j hj).1).1, (hc _ _ (h5 j hj).1).2 (h5 j hj).2⟩⟩
  | own pl r z off len x c ad hl hcc hz ha => exact .own pl r z off len x c ad hl hcc hz ha
  | arr pl r i off len c ad hl hcc ha => exact .arr pl r i off len c ad hl hcc ha
  | ptr pl r i off hl => exact .ptr pl r i off hl
  | va pl cs off b o f h1 h2 h3 h4 => exact .va pl cs off b o f h1 (fun j hj => hu.cell b _ _ (h1 j hj) (h2 j hj)) h3 (fun j hj => (h4 j hj).up hu)
  | map pl r hl => exact .map pl r hl
  | clo pl f fs cs vf vc h1 h2 hf hcs ih1 ih2 => exact .clo pl f fs cs vf vc h1 h2 ih1 ih2
  | ifc pl t d v h ih => exact .ifc pl t d v ih
  | agg pl ds cs hl hk' hr' ih => exact .agg pl ds cs hl hk' ih
  | tup pl ds cs hl hr' ih => exact .tup pl ds cs hl ih
  | undef pl v => exact .undef pl v
/-- holds cells -/
def isCel (W : World) (b : Nat) : Prop := ∃ o, W.heap[b]? = some o ∧ o.isCells = true
theorem isCel_of {b o : Nat} (h : (W.cell? ⟨b, o, none⟩).isSome = true) : isCel W b := by
  unfold World.cell? at h
  simp only at h
  cases hb : W.heap[b]? with
  | none => rw [hb] at h; cases h
  | some ob =>
    rw [hb] at h
    cases ob <;> first | exact ⟨_, hb, rfl⟩ | (simp at h; done)
/-- what may be written is cells -/
noncomputable def Gh.cut (g : Gh) (W : World) : Gh :=
  open Classical in { g with M := fun b => g.M b ∧ isCel W b, own := fun b => if isCel W b then g.own b else none }
theorem RelD.cut {pl : Nat → Pl} {d : D} {v : Value} (h : RelD W g pl d v) (hn : ∀ b, g.own b ≠ some .nil) : (∀ k, pl k = .nil) ∨ (d.isCell = true ∧ nz d = true) → RelD W (g.cut W) pl d v := by
  have nl : ∀ {n c : Nat} {p : Pl} {ad : Option Addr} {z : Nat}, Spare W g p z (.slice ad n c) → p = .nil ∨ z ≠ 0 → Spare W (g.cut W) p z (.slice ad n c) := fun {n c p ad z} hs hp => by
    rcases hs with hs | ⟨b, o, h1, h2, h3, h4, h5⟩
    · exact .inl hs
    · rcases hp with hp | hp
      · subst hp; exact absurd h2 (hn b)
      · by_cases e : n = c
        · exact .inl e
        · have hpos : 0 < c * z := Nat.mul_pos (by omega) (by omega)
          have hc : isCel W b := isCel_of (o := 0) (h5 0 (by omega)).1
          exact .inr ⟨b, o, h1, by simp only [Gh.cut]; rw [if_pos hc]; exact h2, h3, h4, h5⟩
  induction h with
  | v pl x v h => exact fun _ => .v pl x v h
  | nils pl z => exact fun _ => .nils pl z
  | lin pl z xs v h hs =>
    intro hp
    refine .lin pl z xs v h ?_
    cases v <;> first | exact hs.elim | skip
    exact nl hs (hp.imp (fun h => h 0) (fun h => by simpa [nz] using h.2))
  | own pl r z off len x c ad hl hcc hz ha => exact fun _ => .own pl r z off len x c ad hl hcc hz ha
  | arr pl r i off len c ad hl hcc ha => exact fun _ => .arr pl r i off len c ad hl hcc ha
  | ptr pl r i off hl => exact fun _ => .ptr (g := g.cut W) pl r i off hl
  | va pl cs off b o f h1 h2 h3 h4 => exact fun _ => .va pl cs off b o f h1 h2 h3 h4
  | map pl r hl => exact fun _ => .map (g := g.cut W) pl r hl
  | clo pl f fs cs vf vc h1 h2 hf hcs ih1 ih2 => exact fun _ => .clo pl f fs cs vf vc h1 h2 (fun i hi => ih1 i hi (.inl fun _ => rfl)) (fun i hi => ih2 i hi (.inl fun _ => rfl))
  | ifc pl t d v h ih => exact fun _ => .ifc pl t d v (ih (.inl fun _ => rfl))
  | agg pl ds cs hl hk' hr' ih =>
    intro hp
    rcases hp with hp | hp
    · exact .agg pl ds cs hl hk' fun i hi => ih i hi (.inl fun _ => hp i)
    · simp [D.isCell] at hp
  | tup pl ds cs hl hr' ih =>
    intro hp
    rcases hp with hp | hp
    · exact .tup pl ds cs hl fun i hi => ih i hi (.inl fun _ => hp i)
    · simp [D.isCell] at hp
  | undef pl v => exact fun _ => .undef pl v
theorem solid_at {r : Ref} {bl : Blk} : ∀ {st : St}, solid st = true → getB st r = some bl → solidB bl = true
  | [], h, hb => by simp [getB] at hb
  | fr :: st, h, hb => by
    simp only [solid, List.all_cons, Bool.and_eq_true] at h
    simp only [getB] at hb
    split at hb
    · exact List.all_eq_true.1 h.1 bl (List.mem_of_getElem? hb)
    · exact solid_at h.2 hb
theorem solidB_row {bl : Blk} (h : solidB bl = true) : ∃ xs, bl = .row xs ∧ xs ≠ [] ∧ ∀ d ∈ xs, cellsOf d ≠ [] ∧ ∀ c ∈ cellsOf d, nz c = true := by
  cases bl with
  | mp es => simp [solidB] at h
  | row xs =>
    simp only [solidB, Bool.and_eq_true, Bool.not_eq_true', List.isEmpty_eq_false_iff, List.all_eq_true] at h
    exact ⟨xs, rfl, h.1, fun d hd => ⟨(h.2 d hd).1, (h.2 d hd).2⟩⟩
theorem RelS.cut (h : RelS W g st) (hs : solid st = true) : RelS W (g.cut W) st := by
  have cell0 : ∀ r bl, getB st r = some bl → isCel W (g.be r) := fun r bl hb => by
    obtain ⟨xs, rfl, h1, h2⟩ := solidB_row (solid_at hs hb)
    have hB := h.blk r _ hb
    simp only [RelB] at hB
    have hpos : 0 < xs.length := List.length_pos_iff.2 h1
    obtain ⟨_, h3⟩ := hB.2 0 hpos
    have hpos2 : 0 < (cellsOf xs[0]).length := List.length_pos_iff.2 (h2 _ (List.getElem_mem hpos)).1
    obtain ⟨_, _, v, h4, _⟩ := h3 0 hpos2
    exact isCel_of (o := 0 * g.sz r + 0) (by rw [h4]; rfl)
  refine ⟨h.live, fun r bl hb => ?_, fun r hr => ?_, h.inj, fun b p hp => ?_, fun b hp => ?_, fun b hb => ?_, ⟨h.gl.1, fun p hp => ⟨fun hm => (h.gl.2 p hp).1 hm.1, (h.gl.2 p hp).2⟩⟩⟩
  · obtain ⟨xs, rfl, h1, h2⟩ := solidB_row (solid_at hs hb)
    have hB := h.blk r _ hb
    simp only [RelB] at hB ⊢
    refine ⟨hB.1, fun i hi => ?_⟩
    obtain ⟨h3, h4⟩ := hB.2 i hi
    refine ⟨h3, fun j hj => ?_⟩
    obtain ⟨h5, h6, v, h7, h8, h9⟩ := h4 j hj
    exact ⟨h5, h6, v, h7, h8, h9.cut h.nil (.inr ⟨h5, (h2 _ (List.getElem_mem hi)).2 _ (List.getElem_mem hj)⟩)⟩
  · obtain ⟨h1, h2, h3, h4⟩ := h.be r hr
    obtain ⟨bl, hb⟩ := (h.live r).1 hr
    refine ⟨⟨h1, cell0 r bl hb⟩, h2, ?_, h4⟩
    simp only [Gh.cut]
    split
    · exact h3
    · rfl
  · simp only [Gh.cut] at hp
    split at hp <;> first | (cases hp; done) | skip
    rename_i hc
    exact ⟨⟨(h.own b p hp).1, hc⟩, (h.own b p hp).2⟩
  · simp only [Gh.cut] at hp
    split at hp <;> first | (cases hp; done) | skip
    exact h.nil b hp
  · exact ⟨(h.fresh b hb).1, fun hm => (h.fresh b hb).2 hm.1⟩
theorem Ext.cut {w W : World} {g g' : Gh} (h : Ext w W g g') : Ext w W g (g'.cut W) := ⟨h.os, h.tape, h.output, h.size, h.cell, h.L, fun b hb hm => by
  obtain ⟨h1, h2, h3⟩ := h.old b hb hm
  exact ⟨h1, h2, fun hh => h3 hh.1⟩, h.refs⟩
theorem Ext.ofCut {w W : World} {g g' : Gh} (h : Ext w W (g.cut w) g') : Ext w W g g' := ⟨h.os, h.tape, h.output, h.size, h.cell, h.L, fun b hb hm => h.old b hb (fun hh => hm hh.1), h.refs⟩

/-! ### Others turn a block that holds no cells -/
structure Turn (N : Nat) (A B : World) : Prop where
  os : B.os = A.os
  tape : B.tape = A.tape
  output : B.output = A.output
  size : A.heap.size ≤ B.heap.size
  block : ∀ b, b < A.heap.size → B.heap[b]? = A.heap[b]? ∨ (N ≤ b ∧ ∃ o, A.heap[b]? = some o ∧ o.isCells = false)
theorem Turn.of {A B : World} {row : Option Nat} {N : Nat} (h : A.grownBy B row) (hr : ∀ r, row = some r → N ≤ r ∧ ∃ o : Obj, A.heap[r]? = some o ∧ o.isCells = false) : Turn N A B :=
  ⟨h.os, h.tape, h.output, h.size, fun b hb => by
    by_cases e : some b = row
    · exact .inr (hr b e.symm)
    · exact .inl (h.block b hb e)⟩
theorem Turn.cell {N : Nat} {A B : World} (h : Turn N A B) {b o : Nat} (hc : (A.cell? ⟨b, o, none⟩).isSome = true) : B.cell? ⟨b, o, none⟩ = A.cell? ⟨b, o, none⟩ ∧ B.frozen? ⟨b, o, none⟩ = A.frozen? ⟨b, o, none⟩ := by
  obtain ⟨ob, h1, h2⟩ := isCel_of hc
  rcases h.block b (Array.getElem?_eq_some_iff.1 h1).1 with h3 | ⟨_, ob', h4, h5⟩
  · exact cell_heap h3 o
  · rw [h1] at h4; cases h4; rw [h2] at h5; cases h5
theorem Turn.upL {N : Nat} {A B : World} (h : Turn N A B) (L : Nat → Nat) : UpW A B L := ⟨fun b o v _ hc => by rw [(h.cell (by rw [hc]; rfl)).1]; exact hc⟩
theorem RelD.turn {N : Nat} {A B : World} (h : Turn N A B) {g : Gh} {pl : Nat → Pl} {d : D} {v : Value} (hd : RelD A g pl d v) : RelD B g pl d v :=
  hd.up (h.upL _) fun b o hc => by
    obtain ⟨h1, h2⟩ := h.cell hc
    rw [h1, h2]; exact ⟨hc, id⟩
theorem RelS.turn {N : Nat} {A B : World} {g : Gh} {st : St} (h : Turn N A B) (hS : RelS A g st) (hs : solid st = true) (hb : ∀ p ∈ Known.bl, p.1 < N) : RelS B g st := by
  refine ⟨hS.live, fun r bl hbl => ?_, fun r hr => ?_, hS.inj, fun b p hp => ?_, hS.nil, fun b hb => hS.fresh b (Nat.le_trans h.size hb), ⟨fun p hp => ?_, fun p hp => ?_⟩⟩
  · obtain ⟨xs, rfl, h1, h2⟩ := solidB_row (solid_at hs hbl)
    have hB := hS.blk r _ hbl
    simp only [RelB] at hB ⊢
    refine ⟨hB.1, fun i hi => ?_⟩
    obtain ⟨h3, h4⟩ := hB.2 i hi
    refine ⟨h3, fun j hj => ?_⟩
    obtain ⟨h5, h6, v, h7, h8, h9⟩ := h4 j hj
    obtain ⟨c1, c2⟩ := h.cell (b := g.be r) (o := i * g.sz r + j) (by rw [h7]; rfl)
    exact ⟨h5, h6, v, c1.trans h7, c2.trans h8, h9.turn h⟩
  · obtain ⟨h1, h2, h3, h4⟩ := hS.be r hr
    exact ⟨h1, h2, h3, Nat.lt_of_lt_of_le h4 h.size⟩
  · exact ⟨(hS.own b p hp).1, Nat.lt_of_lt_of_le (hS.own b p hp).2 h.size⟩
  · obtain ⟨h1, h2⟩ := hS.gl.1 p hp
    exact ⟨h1, (h.cell (by rw [h2]; rfl)).1.trans h2⟩
  · obtain ⟨h1, h2, h3⟩ := hS.gl.2 p hp
    refine ⟨h1, Nat.lt_of_lt_of_le h2 h.size, ?_⟩
    rcases h.block _ h2 with h4 | ⟨h4, _⟩
    · exact h4.trans h3
    · have := hb p hp; omega
/-- marks are taken up -/
structure TurnD (N : Nat) (A B : World) : Prop where
  os : B.os = A.os
  tape : B.tape = A.tape
  output : B.output = A.output
  size : A.heap.size ≤ B.heap.size
  block : ∀ b, b < A.heap.size → B.heap[b]? = A.heap[b]? ∨ (N ≤ b ∧ ∃ x, A.heap[b]? = some (.deferred x))
theorem TurnD.refl (N : Nat) (A : World) : TurnD N A A := ⟨rfl, rfl, rfl, Nat.le_refl _, fun _ _ => .inl rfl⟩
theorem TurnD.turn {N : Nat} {A B : World} (h : TurnD N A B) : Turn N A B := ⟨h.os, h.tape, h.output, h.size, fun b hb => (h.block b hb).imp id fun ⟨h1, x, h2⟩ => ⟨h1, _, h2, rfl⟩⟩
theorem RelS.turnD {N : Nat} {A B : World} {g : Gh} {st : St} (h : TurnD N A B) (hS : RelS A g st) (hb : ∀ p ∈ Known.bl, p.1 < N) : RelS B g st := by
  refine ⟨hS.live, fun r bl hbl => ?_, fun r hr => ?_, hS.inj, fun b p hp => ?_, hS.nil, fun b hb => hS.fresh b (Nat.le_trans h.size hb), ⟨fun p hp => ?_, fun p hp => ?_⟩⟩
  · have hB := hS.blk r _ hbl
    cases bl with
    | mp es =>
      obtain ⟨arr, clock, h1, h2, h3⟩ := hB
      have hbe := (hS.be r ((hS.live r).2 ⟨_, hbl⟩)).2.2.2
      refine ⟨arr, clock, ?_, h2, fun i hi hi' => ?_⟩
      · rcases h.block _ hbe with h4 | ⟨_, x, h4⟩
        · exact h4.trans h1
        · rw [h1] at h4; cases h4
      · obtain ⟨h5, h6, h7⟩ := h3 i hi hi'
        exact ⟨h5, h6, h7.turn h.turn⟩
    | row xs =>
      simp only [RelB] at hB ⊢
      refine ⟨hB.1, fun i hi => ?_⟩
      obtain ⟨h3, h4⟩ := hB.2 i hi
      refine ⟨h3, fun j hj => ?_⟩
      obtain ⟨h5, h6, v, h7, h8, h9⟩ := h4 j hj
      obtain ⟨c1, c2⟩ := h.turn.cell (b := g.be r) (o := i * g.sz r + j) (by rw [h7]; rfl)
      exact ⟨h5, h6, v, c1.trans h7, c2.trans h8, h9.turn h.turn⟩
  · obtain ⟨h1, h2, h3, h4⟩ := hS.be r hr
    exact ⟨h1, h2, h3, Nat.lt_of_lt_of_le h4 h.size⟩
  · exact ⟨(hS.own b p hp).1, Nat.lt_of_lt_of_le (hS.own b p hp).2 h.size⟩
  · obtain ⟨h1, h2⟩ := hS.gl.1 p hp
    exact ⟨h1, (h.turn.cell (by rw [h2]; rfl)).1.trans h2⟩
  · obtain ⟨h1, h2, h3⟩ := hS.gl.2 p hp
    refine ⟨h1, Nat.lt_of_lt_of_le h2 h.size, ?_⟩
    rcases h.block _ h2 with h4 | ⟨h4, _⟩
    · exact h4.trans h3
    · have := hb p hp; omega
theorem Ext.turn {w A B : World} {g g' : Gh} (hx : Ext w A g g') (h : Turn w.heap.size A B) (hf : ∀ b, w.heap.size ≤ b → g.L b = 0) : Ext w B g g' := by
  have old : ∀ b, b < w.heap.size → B.heap[b]? = A.heap[b]? := fun b hb => by
    rcases h.block b (Nat.lt_of_lt_of_le hb hx.size) with h1 | ⟨h1, _⟩
    · exact h1
    · omega
  refine ⟨h.os.trans hx.os, h.tape.trans hx.tape, h.output.trans hx.output, Nat.le_trans hx.size h.size, fun b o ho => ?_, hx.L, fun b hb hm => ?_, hx.refs⟩
  · have hb : b < w.heap.size := Nat.lt_of_not_le fun hh => by rw [hf b hh] at ho; omega
    rw [(cell_heap (old b hb) o).1]; exact hx.cell b o ho
  · obtain ⟨h1, h2, h3⟩ := hx.old b hb hm
    exact ⟨(old b hb).trans h1, h2, h3⟩

/-! ### The variables at a round's head -/
def chkPs2 (μ : List Nat) (nt : Nat) : List Nat → List Tmp → Bool
  | [], [] => true
  | p :: ps, q :: qs => decide (μ[p]? = some q) && decide (q < nt) && chkPs2 μ nt ps qs
  | _, _ => false
theorem setPs_rel (hμ : μ.Nodup) : ∀ {ps : List Nat} {qs : List Tmp} {xs : List V} {vs : List Value} {env : List D} {tmps : Array Value}, chkPs2 μ nt ps qs = true → xs.length = ps.length → vs.length = xs.length → (∀ i (h : i < xs.length) (h' : i < vs.length), RelV w g.L xs[i] vs[i]) → tmps.size = nt →
    RelA w g μ [] env [] st tmps → RelA w g μ [] (setPs ps xs env) [] st ((qs.zip vs).foldl (fun t (p, v) => t.setIfInBounds p v) tmps) ∧ ((qs.zip vs).foldl (fun t (p, v) => t.setIfInBounds p v) tmps).size = nt
  | [], qs, xs, vs, env, tmps, hc, hl, hv, hr, hn, h => by
    cases qs <;> simp [chkPs2] at hc
    have : xs = [] := List.length_eq_zero_iff.1 (by simpa using hl)
    subst this
    exact ⟨h, hn⟩
  | p :: ps, qs, xs, vs, env, tmps, hc, hl, hv, hr, hn, h => by
    cases qs with
    | nil => simp [chkPs2] at hc
    | cons q qs =>
      cases xs with
      | nil => simp at hl
      | cons x xs =>
        cases vs with
        | nil => simp at hv
        | cons v vs =>
          simp only [chkPs2, Bool.and_eq_true, decide_eq_true_eq] at hc
          obtain ⟨⟨h1, h2⟩, h3⟩ := hc
          simp only [setPs, List.zip_cons_cons, List.foldl_cons]
          exact setPs_rel hμ h3 (by simpa using hl) (by simpa using hv) (fun i hi hi' => hr (i + 1) (by simpa using hi) (by simpa using hi')) (by simpa using hn) (set_put hμ h h1 (by rw [hn]; exact h2) (.v _ _ _ (hr 0 (by simp) (by simp))))

theorem chkPs2_len : ∀ {ps : List Nat} {qs : List Tmp}, chkPs2 μ nt ps qs = true → ps.length = qs.length
  | [], [], _ => rfl
  | [], q :: qs, h => by simp [chkPs2] at h
  | p :: ps, [], h => by simp [chkPs2] at h
  | p :: ps, q :: qs, h => by
    simp only [chkPs2, Bool.and_eq_true] at h
    simp [chkPs2_len h.2]
theorem cp1_cp1 (d : D) : cp1 (cp1 d) = cp1 d := by cases d <;> rfl
theorem cpA_cpA (d : D) : cpA (cpA d) = cpA d := by
  cases d <;> first | rfl | skip
  rename_i ds
  simp only [cpA, mkAgg]
  cases h : allV (ds.map cp1) with
  | some xs => rfl
  | none =>
    simp only [mkAgg1, cpA, mkAgg, List.map_map]
    have : (ds.map (cp1 ∘ cp1)) = ds.map cp1 := List.map_congr_left fun d _ => cp1_cp1 d
    rw [this, h]
theorem cp_cp (d : D) : cp (cp d) = cp d := by
  cases d with
  | tup ds => simp only [cp, List.map_map]; congr 1; exact List.map_congr_left fun d _ => cpA_cpA d
  | agg ds =>
    simp only [cp, mkAgg]
    cases h : allV (ds.map cp1) with
    | some xs => rfl
    | none =>
      simp only [mkAgg1, cp, mkAgg, List.map_map]
      have : (ds.map (cp1 ∘ cp1)) = ds.map cp1 := List.map_congr_left fun d _ => cp1_cp1 d
      rw [this, h]
  | _ => rfl
/-! ### Iterators -/
def KeepL (L : Nat → Nat) (A B : World) : Prop := ∀ b o, o < L b → B.cell? ⟨b, o, none⟩ = A.cell? ⟨b, o, none⟩
def IterOk (P : Program) (k f : Nat) : Prop := ∀ (st : St) (cs : List D) (xs : List (List V)), iterK st k cs = some xs → FnOk P f ∧ ∀ (vc : Array Value) (w : World) (g : Gh) (hl : cs.length = vc.size),
  (∀ i (h : i < cs.length), RelD w g (fun _ => .nil) cs[i] (vc[i]'(hl ▸ h))) → RelS w g st → ∃ encs : Nat → Array Value,
    (∀ i (h : i < xs.length), (encs i).toList.length = xs[i].length ∧ ∀ j (h1 : j < xs[i].length) (h2 : j < (encs i).toList.length), RelV w g.L xs[i][j] (encs i).toList[j]) ∧ SeqAt P f vc encs xs.length (KeepL g.L) w
end
end Go.Q
