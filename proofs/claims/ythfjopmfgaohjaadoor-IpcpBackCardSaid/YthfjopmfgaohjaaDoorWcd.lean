/- octs.Join's word holds. No condition. -/
import Derived.Test.YthfjopmfgaohjaaDoorEp
import Derived.Test.YthfjopmfgaohjaaDoorWcc
set_option linter.all false
set_option maxRecDepth 100000
namespace Go.Proofs.YthfjopmfgaohjaaDoor
open Go.RowKit Go.Q
variable [Known]
def vOf : V → Value
  | .int k n => .int k n
  | _ => .nilIface
section
variable {P : Program} {w : World} {g : Gh} {st : St}
theorem part_is {d : D} {v : Value} {ys : List V} {pl : Nat → Pl} (hS : RelS w g st) (hd : RelD w g pl d v) (h : (rdV st d).bind (slcOf 1) = some ys) (hi : ys.all isIntV = true) : PartIs w v (ys.map vOf) := by
  have he : elems 1 st d = some ys := by
    unfold elems
    split
    · simp [rdV, slcOf] at h
    · rename_i z xs
      simpa [rdV, slcOf] using h
    · exact h
  have hns : ∀ b, v ≠ .string b := by
    intro b hb
    subst hb
    obtain ⟨x, h1, h2⟩ := bind_some' h
    cases hd with
    | v _ _ _ hx =>
      simp only [rdV] at h1
      cases h1
      cases hx
      simp [slcOf] at h2
    | lin _ _ _ _ hx => cases hx
    | undef => simp [rdV, toV] at h1
  obtain ⟨f, E, Sr⟩ := elems_rel hS hd he
  have hint : ∀ i (h : i < ys.length), f i 0 = vOf ys[i] ∧ ∃ k n, ys[i] = .int k n := fun i h => by
    have h1 := List.all_eq_true.1 hi _ (List.getElem_mem h)
    have h2 := E.rel i h
    generalize ys[i] = y at h1 h2
    cases y <;> simp only [isIntV] at h1 <;> first | (cases h1; done) | skip
    have h3 := h2 0 (by simp [cellsV])
    simp only [cellsV, List.getElem_cons_zero] at h3
    generalize f i 0 = u at h3
    cases h3
    exact ⟨rfl, _, _, rfl⟩
  cases Sr with
  | str b _ _ _ => exact absurd rfl (hns b)
  | sl ad c hc h =>
    by_cases h0 : ys.length = 0
    · left
      refine ⟨ad, c, by rw [h0], ?_⟩
      cases ys with
      | nil => rfl
      | cons _ _ => simp at h0
    · obtain ⟨b, o, rfl, hcell⟩ := h h0
      right
      refine ⟨⟨b, o, none⟩, c, by simp, fun j x hj => ?_, fun x hx => ?_⟩
      · rw [List.getElem?_map] at hj
        obtain ⟨y, hy, rfl⟩ := Option.map_eq_some_iff.1 hj
        obtain ⟨hj1, rfl⟩ := List.getElem?_eq_some_iff.1 hy
        have := hcell j 0 hj1 (by omega)
        rw [Nat.mul_one, Nat.add_zero] at this
        rw [← (hint j hj1).1]
        have e : (⟨b, o, none⟩ : Addr).add j = ⟨b, o + j, none⟩ := by
          simp only [Addr.add]
          split
          · rename_i h0; subst h0; rfl
          · rfl
        rw [e]; exact this
      · obtain ⟨y, hy, rfl⟩ := List.mem_map.1 hx
        obtain ⟨i, hi', rfl⟩ := List.getElem_of_mem hy
        obtain ⟨_, k, n, e⟩ := hint i hi'
        rw [e]; rfl
theorem back_ownO {w' : World} {v : Value} {ys : List V} (hl : 0 < ys.length) (hi : ys.all isIntV = true) (hb : Below w.heap.size w w') (ho : w'.ownsRow w.heap.size 5 1 v ys.length (ys.map vOf)) (hS : RelS w g st)
    (hown : ∀ b p, g.own b = some p → p.isCell = true) : ∃ g', Back w g w' g' (.own (addB st (.row (ys.map .v))).2 1 0 ys.length false) (addB st (.row (ys.map .v))).1 v := by
  obtain ⟨gb, cap, cur, rfl, h1, h2, h3, h4⟩ : ∃ gb cap cur, v = .slice (some ⟨gb, 0, none⟩) ys.length cap ∧ w.heap.size ≤ gb ∧ w'.heap[gb]? = some (.cells cur 5 (0, 0)) ∧ ys.length ≤ cap ∧ cur.size = cap * 1 := by
    rcases ho.2 with ⟨_, h0⟩ | ⟨gb, cap, cur, e, hb, hg, hc, _, hs, _⟩
    · omega
    · exact ⟨gb, cap, cur, e, hb, hg, hc, hs⟩
  have hlt : gb < w'.heap.size := (Array.getElem?_eq_some_iff.1 h2).1
  generalize hr0 : (addB st (.row (ys.map .v))).2 = r0
  have hr : getB st r0 = none := by rw [← hr0]; exact addB_none _ _
  have hst : ∀ r, getB (addB st (.row (ys.map .v))).1 r = if r = r0 then some (.row (ys.map .v)) else getB st r := fun r => by rw [← hr0]; exact getB_addB st _ r
  have hG : Grow w w' g (g.blk r0 gb 1 ys.length cap) := {
    os := hb.os
    tape := hb.tape
    output := hb.output
    size := hb.size
    heap := hb.block
    L := fun b hb => by simp only [Gh.blk]; rw [if_neg (by omega)]
    M := fun b hb => by
      simp only [Gh.blk]
      constructor
      · rintro (h | h)
        · exact h
        · omega
      · exact .inl
    own := fun b hb => by simp only [Gh.blk]; rw [if_neg (by omega)]
    refs := fun r hl => by
      have hne : r ≠ r0 := fun e => by
        obtain ⟨b, hb⟩ := (hS.live r).1 hl
        rw [e, hr] at hb; cases hb
      exact ⟨.inl hl, by simp only [Gh.blk]; rw [if_neg hne], by simp only [Gh.blk]; rw [if_neg hne], by simp only [Gh.blk]; rw [if_neg hne], by simp only [Gh.blk]; rw [if_neg hne]⟩
    own' := fun b q hb h => by
      simp only [Gh.blk] at h
      split at h
      · cases h
      · have := (hS.own b q h).2; omega
    fresh := fun b hbb => by
      have hf := hS.fresh b (Nat.le_trans hb.size hbb)
      simp only [Gh.blk]
      rw [if_neg (by omega)]
      refine ⟨hf.1, ?_⟩
      rintro (h | h)
      · exact hf.2 h
      · omega }
  have hbe0 : (g.blk r0 gb 1 ys.length cap).be r0 = gb := by simp [Gh.blk]
  have hsz0 : (g.blk r0 gb 1 ys.length cap).sz r0 = 1 := by simp [Gh.blk]
  have hn0 : (g.blk r0 gb 1 ys.length cap).n r0 = ys.length := by simp [Gh.blk]
  have hcp0 : (g.blk r0 gb 1 ys.length cap).cp r0 = cap := by simp [Gh.blk]
  have hfz : ∀ j, w'.frozen? ⟨gb, j, none⟩ = false := fun j => ho.frozenAt j
  have hB : RelB w' (g.blk r0 gb 1 ys.length cap) r0 (.row (ys.map .v)) := by
    refine ⟨⟨by rw [hn0]; simp, fun j hj => ?_⟩, fun i hi2 => ?_⟩
    · rw [hcp0] at hj
      rw [hbe0]
      refine ⟨?_, hfz j⟩
      unfold World.cell?
      simp only [h2]
      have : j < cur.size := by omega
      simp [this]
    · have hi' : i < ys.length := by simpa using hi2
      have hint : ∃ k n, ys[i] = .int k n := by
        have h1 := List.all_eq_true.1 hi _ (List.getElem_mem hi')
        generalize ys[i] = y at h1
        cases y <;> simp only [isIntV] at h1 <;> first | (cases h1; done) | exact ⟨_, _, rfl⟩
      obtain ⟨k, n, e⟩ := hint
      simp only [List.getElem_map, e]
      refine ⟨by rw [hsz0]; rfl, fun j hj => ?_⟩
      obtain rfl : j = 0 := by simpa [cellsOf, cellsV] using hj
      refine ⟨rfl, rfl, .int k n, ?_, ?_, .v _ _ _ (.int _ _)⟩
      · rw [hbe0, hsz0, Nat.mul_one, Nat.add_zero, ho.cellAt i (by omega), List.getElem?_map, List.getElem?_eq_getElem hi', e]; rfl
      · rw [hbe0]; exact hfz _
  have hbe : ∀ r, (g.blk r0 gb 1 ys.length cap).live r → (r = r0 ∧ (g.blk r0 gb 1 ys.length cap).be r = gb) ∨ (g.live r ∧ (g.blk r0 gb 1 ys.length cap).be r = g.be r ∧ g.be r < w.heap.size) := fun r hl => by
    rcases hl with hl | rfl
    · exact .inr ⟨hl, (hG.refs r hl).2.1, (hS.be r hl).2.2.2⟩
    · exact .inl ⟨rfl, hbe0⟩
  refine ⟨_, hG.ext hS, ⟨fun r => ?_, fun r b hb => ?_, fun r hl => ?_, fun r r' hl hl' e => ?_, fun b p hb => ?_, fun b hb => ?_, hG.fresh, gl_keep (hG.keeps hS).cell (hG.keeps hS).L hG.size (fun b hb hm => ⟨fun hh => hm ((hG.M b hb).1 hh), hG.heap b hb⟩) hS.gl⟩, ?_, fun b p hb => ?_⟩
  · rw [hst]
    by_cases e : r = r0
    · subst e; simp [Gh.blk]
    · rw [if_neg e]; simp only [Gh.blk, e, or_false]; exact hS.live r
  · rw [hst] at hb
    by_cases e : r = r0
    · subst e
      rw [if_pos rfl] at hb
      cases hb
      exact hB
    · rw [if_neg e] at hb
      exact hG.blk hS ((hS.live r).2 ⟨b, hb⟩) (hS.blk r b hb)
  · rcases hbe r hl with ⟨rfl, e⟩ | ⟨h1, e, h2⟩
    · rw [e]
      exact ⟨.inr rfl, by simp [Gh.blk], by simp [Gh.blk], hlt⟩
    · obtain ⟨h3, h4, h5, h6⟩ := hS.be r h1
      rw [e]
      refine ⟨.inl h3, ?_, ?_, Nat.lt_of_lt_of_le h2 hb.size⟩
      · rw [hG.L _ h2]; exact h4
      · rw [hG.own _ h2, h5]
  · rcases hbe r hl with ⟨rfl, e1⟩ | ⟨h1, e1, h2⟩ <;> rcases hbe r' hl' with ⟨rfl, e2⟩ | ⟨h3, e2, h4⟩
    · exact .inl rfl
    · omega
    · omega
    · have old : ∀ r, g.live r → r ≠ r0 := fun r hl e => by
        obtain ⟨b, hb⟩ := (hS.live r).1 hl
        rw [e, hr] at hb; cases hb
      rw [hst, hst, if_neg (old r h1), if_neg (old r' h3)]
      exact hS.inj r r' h1 h3 (by rw [← e1, ← e2]; exact e)
  · simp only [Gh.blk] at hb
    split at hb
    · cases hb
    · obtain ⟨h1, h2⟩ := hS.own b p hb
      rename_i hb2 _
      exact ⟨.inl h1, Nat.lt_of_lt_of_le h2 (by exact ‹Below w.heap.size w w'›.size)⟩
  · simp only [Gh.blk] at hb
    split at hb
    · cases hb
    · exact hS.nil b hb
  · exact RelD.own _ _ _ _ _ _ _ _ (.inr rfl) ⟨h3, (fun hh => by cases hh), fun _ => by rw [hcp0]; omega⟩ hsz0 (fun _ => by rw [hbe0])
  · simp only [Gh.blk] at hb
    split at hb
    · cases hb
    · exact .inl (hown b p hb)
theorem partsV_at : ∀ {ds : List D} {bss : List (List V)}, partsV st ds = some bss → ds.length = bss.length ∧ ∀ i (h : i < ds.length) (h2 : i < bss.length), (rdV st ds[i]).bind (slcOf 1) = some bss[i]
  | [], bss, h => by simp only [partsV] at h; cases h; exact ⟨rfl, fun i h => by simp at h⟩
  | d :: ds, bss, h => by
    simp only [partsV] at h
    obtain ⟨xs, h1, h2⟩ := bind_some' h
    obtain ⟨ys, h3, rfl⟩ := map_some' h2
    obtain ⟨h4, h5⟩ := partsV_at h3
    refine ⟨by simp [h4], fun i hi hi2 => ?_⟩
    cases i with
    | zero => exact h1
    | succ i => exact h5 i (by simpa using hi) (by simpa using hi2)
theorem joinO_ok {f : Nat} (hf : FnOk P f) (hc : ∀ (us : List Value) (bss : List (List Value)) (bk o c : Nat) (w : World), us.length = bss.length → (∀ i (h : i < us.length) (h2 : i < bss.length), PartIs w us[i] bss[i]) →
    (∀ i (h : i < us.length), w.cell? ⟨bk, o + i, none⟩ = some us[i]) → 0 < bss.flatten.length → bss.flatten.length ≤ 100000 → us.length ≤ 1000 → Calls P f #[.slice (some ⟨bk, o, none⟩) us.length c] w fun e w' =>
      ∃ v, e = .returned v ∧ w'.ownsRow w.heap.size 5 1 v bss.flatten.length bss.flatten ∧ Below w.heap.size w w') : PrimOk P f primJoinO := by
  intro args st r h
  unfold primJoinO at h
  split at h <;> first | (cases h; done) | skip
  rename_i r1 off len x
  obtain ⟨xs, h1, h2⟩ := bind_some' h
  unfold joinRow at h2
  split at h2 <;> first | (cases h2; done) | skip
  rename_i hol
  obtain ⟨bss, h3, h4⟩ := bind_some' h2
  unfold joinGo at h4
  split at h4 <;> cases h4
  rename_i hh
  obtain ⟨a1, a2, a3, a4, a5⟩ := hh
  obtain ⟨p1, p2⟩ := partsV_at h3
  have hrow := rowOf_some h1
  have hlen : ((xs.drop off).take len).length = len := by simp; omega
  refine ⟨addB_len _ (fun e => by rw [e] at a5; simp at a5), hf, fun vals w g hl hv hS hown => ?_⟩
  obtain ⟨v1, rfl⟩ : ∃ a, vals = #[a] := ⟨vals[0]'(by simp at hl; omega), by
    apply Array.ext
    · simp at hl; simp [← hl]
    · intro i hi hj
      have : i = 0 := by simp at hj; omega
      subst this; rfl⟩
  have hd := hv 0 (by simp)
  simp only [List.getElem_toArray, List.getElem_cons_zero] at hd
  have hne : len ≠ 0 := fun e => by
    rw [hlen, e] at p1
    have : bss = [] := by cases bss with
      | nil => rfl
      | cons _ _ => simp at p1
    rw [this] at a2; simp at a2
  cases hd with | own _ _ _ _ _ _ c ad hlv hcc hz ha =>
  have hB := hS.blk _ _ hrow
  obtain ⟨⟨_, _⟩, hB⟩ := hB
  have hone : ∀ i (h : i < len) , ∃ u, w.cell? ⟨g.be r1, off + i, none⟩ = some u ∧ ∃ pl, RelD w g pl (xs[off + i]'(by omega)) u := fun i h => by
    obtain ⟨q1, q2⟩ := hB (off + i) (by omega)
    rw [hz] at q1 q2
    obtain ⟨_, _, u, q3, _, q4⟩ := q2 0 (by omega)
    rw [Nat.mul_one, Nat.add_zero] at q3
    refine ⟨u, q3, (fun _ => .cell r1 (off + i) 0), ?_⟩
    have h5 := p2 i (by omega) (by omega)
    have e1 : ((xs.drop off).take len)[i]'(by omega) = xs[off + i]'(by omega) := by simp
    rw [e1] at h5
    have e2 : ∀ (d : D) (h : 0 < (cellsOf d).length), (cellsOf d).length = 1 → (rdV st d).bind (slcOf 1) ≠ none → (cellsOf d)[0] = d := by
      intro d h h1 h2
      cases d <;> first | rfl | skip
      · rename_i y
        cases y <;> first | rfl | (simp [rdV, slcOf] at h2; done)
      · rename_i ds
        exfalso
        apply h2
        simp only [rdV, toV]
        cases toVs ds <;> simp [slcOf]
    rw [e2 _ _ q1 (by rw [h5]; simp)] at q4
    exact q4
  let us : List Value := (List.range len).map fun i => (w.cell? ⟨g.be r1, off + i, none⟩).getD .nilIface
  have hus : us.length = len := by simp [us]
  have husi : ∀ i (h : i < us.length), w.cell? ⟨g.be r1, off + i, none⟩ = some us[i] := fun i h => by
    obtain ⟨u, e, _⟩ := hone i (by omega)
    simp [us, e]
  have hall : ∀ i (h : i < bss.length), bss[i].all isIntV = true := fun i h => by
    rw [List.all_eq_true]
    intro y hy
    exact List.all_eq_true.1 a1 y (List.mem_flatten.2 ⟨_, List.getElem_mem h, hy⟩)
  have hfl : (bss.map (·.map vOf)).flatten = bss.flatten.map vOf := (List.map_flatten).symm
  have hC := hc us (bss.map (·.map vOf)) (g.be r1) off c w (by simp; omega) (fun i h h2 => by
    have hib : i < bss.length := by simpa using h2
    obtain ⟨u, e, pl, hr⟩ := hone i (by omega)
    have e0 : us[i] = u := by have := husi i h; rw [e] at this; cases this; rfl
    rw [e0]
    simp only [List.getElem_map]
    have h5 := p2 i (by omega) hib
    have e1 : ((xs.drop off).take len)[i]'(by omega) = xs[off + i]'(by omega) := by simp
    rw [e1] at h5
    exact part_is hS hr h5 (hall i hib)) husi (by rw [hfl]; simp only [List.length_map]; omega) (by rw [hfl]; simp only [List.length_map]; omega) (by omega)
  rw [hus] at hC
  rw [ha hne, Nat.mul_one]
  refine hC.mono fun e w' ⟨v, he, ho, hb⟩ => ?_
  rw [hfl] at ho
  simp only [List.length_map] at ho
  obtain ⟨g', B⟩ := back_ownO (by omega) a1 hb ho hS hown
  exact ⟨v, g', he, B⟩
end
end Go.Proofs.YthfjopmfgaohjaaDoor
