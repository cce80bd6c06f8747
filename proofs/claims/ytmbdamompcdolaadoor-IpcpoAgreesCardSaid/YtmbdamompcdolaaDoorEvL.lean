/- Stores, copies: what the abstract machine tells of them holds. No condition. -/
import Derived.Test.YtmbdamompcdolaaDoorEvJ
set_option linter.unusedVariables false
set_option linter.unusedSimpArgs false
set_option linter.unusedSectionVars false
namespace Go.Q
variable [Known]

theorem setB_len : ∀ (st : St) (r : Ref) (b : Blk), (setB st r b).length = st.length
  | [], r, b => rfl
  | fr :: st, r, b => by simp only [setB]; split <;> simp [setB_len st r b]
theorem getB_setB : ∀ {st : St} {r : Ref} {b0 : Blk} (b : Blk), getB st r = some b0 → ∀ r', getB (setB st r b) r' = if r' = r then some b else getB st r'
  | [], r, b0, b, h => by simp [getB] at h
  | fr :: st, r, b0, b, h => by
    intro r'
    rw [getB_cons] at h
    simp only [setB]
    by_cases h1 : r.lvl = st.length
    · rw [if_pos h1] at h
      rw [if_pos h1, getB_cons, getB_cons]
      obtain ⟨l, k⟩ := r
      obtain ⟨l', k'⟩ := r'
      simp only at h h1 ⊢
      subst h1
      by_cases h2 : l' = st.length
      · subst h2
        rw [if_pos rfl, if_pos rfl]
        have hk : k < fr.length := (List.getElem?_eq_some_iff.1 h).1
        by_cases h3 : k' = k
        · subst h3
          simp [hk]
        · have h4 : ¬ (⟨st.length, k'⟩ : Ref) = ⟨st.length, k⟩ := fun e => h3 (congrArg Ref.k e)
          rw [if_neg h4, List.getElem?_set_ne (Ne.symm h3)]
      · have h4 : ¬ (⟨l', k'⟩ : Ref) = ⟨st.length, k⟩ := fun e => h2 (congrArg Ref.lvl e)
        rw [if_neg h2, if_neg h2, if_neg h4]
    · rw [if_neg h1] at h
      rw [if_neg h1, getB_cons, getB_cons, setB_len]
      by_cases h2 : r'.lvl = st.length
      · have h4 : ¬ r' = r := fun e => h1 (e ▸ h2)
        rw [if_pos h2, if_pos h2, if_neg h4]
      · rw [if_neg h2, if_neg h2]
        exact getB_setB b h r'

section
variable {P : Program} {w : World} {g : Gh} {μ : List Nat} {τ : List (Option Nat)} {env ts : List D} {st : St} {a : Act} {o : Oper}

/-- cells of a block of the store are written: nothing else hangs on them -/
theorem poke_mono {b off : Nat} {vs : List Value} {pl : Nat → Pl} {d : D} {v : Value} (hS : RelS w g st) (hL : g.L b = 0) (ho : g.own b = none) (hd : RelD w g pl d v) : RelD (w.setCells b off vs) g pl d v := by
  have hout : ∀ b' o', b' ≠ b → (w.setCells b off vs).cell? ⟨b', o', none⟩ = w.cell? ⟨b', o', none⟩ := fun b' o' hne => World.cell?_setCells_out b _ _ w _ fun h1 _ => absurd h1 hne
  refine hd.mono ⟨fun b' o' hh => hout b' o' (fun e => by rw [e, hL] at hh; omega), fun _ => Nat.le_refl _⟩ hS.nil (fun b' k hb => ⟨hb, rfl, fun o' => ⟨World.isSome_setCells b _ _ w _, fun hh => by rw [World.frozen?_setCells]; exact hh⟩⟩) (fun r hr => ⟨hr, rfl, rfl, rfl⟩)
theorem poke_ext {b off : Nat} {vs : List Value} (hM : g.M b) (hL : g.L b = 0) : Ext w (w.setCells b off vs) g g := by
  obtain ⟨ht, hs⟩ := tape_setCells b vs off w
  refine ⟨World.os_setCells _ _ _ _, ht, World.output_setCells _ _ _ _, by omega, fun b' o' hh => World.cell?_setCells_out b _ _ w _ fun h1 _ => ?_, fun _ => Nat.le_refl _, fun b' hb hm => ⟨World.heap_setCells_other w b _ _ hb (fun e => hm (e ▸ hM)), rfl, hm⟩, fun r hr => ⟨hr, rfl, rfl, rfl⟩⟩
  have : b' = b := h1
  rw [this, hL] at hh; omega

/-- cells of a block of the store are written, and the rights move with them -/
theorem set_blk {r : Ref} {xs xs' : List D} {off : Nat} {vs : List Value} {f : Pl → Pl} {b0 : Nat} (hS : RelS w g st) (hb : getB st r = some (.row xs)) (hb0 : g.be r = b0)
    (hf0 : f .nil = .nil) (hf1 : ∀ p, f p = .nil → p = .nil) (hfc : ∀ r i j, f (.cell r i j) = .cell r i j)
    (hin : ∀ k, k < vs.length → (w.cell? ⟨b0, off + k, none⟩).isSome = true ∧ w.frozen? ⟨b0, off + k, none⟩ = false)
    (hN : xs'.length = xs.length) (hlen : ∀ i (hi : i < xs'.length), (cellsOf xs'[i]).length = g.sz r)
    (hcell : ∀ i (hi : i < xs'.length) j (hj : j < (cellsOf xs'[i]).length),
      (∃ k v pl, off + k = i * g.sz r + j ∧ vs[k]? = some v ∧ ((cellsOf xs'[i])[j]).isCell = true ∧ refsBelow (r.lvl + 1) ((cellsOf xs'[i])[j]) = true ∧ RelD w g pl (cellsOf xs'[i])[j] v ∧ f (pl 0) = .cell r i j) ∨
      ((i * g.sz r + j < off ∨ off + vs.length ≤ i * g.sz r + j) ∧ ∃ hi2 : i < xs.length, ∃ hj2 : j < (cellsOf xs[i]).length, (cellsOf xs'[i])[j] = (cellsOf xs[i])[j])) :
    RelS (w.setCells b0 off vs) (g.mv f) (setB st r (.row xs')) := by
  subst hb0
  have hlv : g.live r := (hS.live r).2 ⟨_, hb⟩
  obtain ⟨hM, hL, ho, hsz⟩ := hS.be r hlv
  obtain ⟨ht, hs⟩ := tape_setCells (g.be r) vs off w
  have mono : ∀ {pl : Nat → Pl} {d : D} {v : Value}, RelD w g pl d v → RelD (w.setCells (g.be r) off vs) g pl d v := fun hd => poke_mono hS hL ho hd
  have hget := getB_setB (.row xs') hb
  refine ⟨fun r' => ?_, fun r' bl hbl => ?_, fun r' hr' => ?_, hS.inj, fun b p hp => ?_, fun b hbn => ?_, fun b hbn => ?_, gl_keep (g' := g.mv f) (poke_ext hM hL).cell (fun _ => Nat.le_refl _) (poke_ext (vs := vs) (off := off) hM hL).size (fun b hb hm => ⟨hm, ((poke_ext hM hL).old b hb hm).1⟩) hS.gl⟩
  · rw [hget]
    by_cases e : r' = r
    · subst e; rw [if_pos rfl]; exact ⟨fun _ => ⟨_, rfl⟩, fun _ => hlv⟩
    · rw [if_neg e]; exact hS.live r'
  · rw [hget] at hbl
    by_cases e : r' = r
    · subst e
      rw [if_pos rfl] at hbl
      cases hbl
      have hB := hS.blk r' _ hb
      simp only [RelB] at hB ⊢
      refine ⟨by rw [hN]; exact hB.1, fun i hi => ⟨hlen i hi, fun j hj => ?_⟩⟩
      replace hB := hB.2
      rcases hcell i hi j hj with ⟨k, v, pl, h1, h2, h3, h4, h5, h6⟩ | ⟨h1, hi2, hj2, h3⟩
      · obtain ⟨hk, h7⟩ := List.getElem?_eq_some_iff.1 h2
        refine ⟨h3, h4, v, ?_, ?_, ?_⟩
        · have := World.cell?_setCells_in (g.be r') vs off w (fun k hk => (hin k hk).1) k hk
          show (w.setCells (g.be r') off vs).cell? ⟨g.be r', i * g.sz r' + j, none⟩ = some v
          rw [← h1, this, h7]
        · show (w.setCells (g.be r') off vs).frozen? ⟨g.be r', i * g.sz r' + j, none⟩ = false
          rw [World.frozen?_setCells, ← h1]; exact (hin k hk).2
        · exact ((mono h5).place h3 (pl' := fun _ => pl 0) rfl).mv (fun _ => h6) hf0
      · obtain ⟨_, h4⟩ := hB i hi2
        obtain ⟨h5, h6, v, h7, h8, h9⟩ := h4 j hj2
        rw [h3]
        refine ⟨h5, h6, v, ?_, ?_, (mono h9).mv (fun _ => hfc _ _ _) hf0⟩
        · show (w.setCells (g.be r') off vs).cell? ⟨g.be r', i * g.sz r' + j, none⟩ = some v
          rw [World.cell?_setCells_out (g.be r') vs off w _ (fun _ _ => h1)]; exact h7
        · show (w.setCells (g.be r') off vs).frozen? ⟨g.be r', i * g.sz r' + j, none⟩ = false
          rw [World.frozen?_setCells]; exact h8
    · rw [if_neg e] at hbl
      have hlv' : g.live r' := (hS.live r').2 ⟨_, hbl⟩
      have hne : g.be r' ≠ g.be r := fun e' => e (hS.inj _ _ hlv' hlv e')
      have hB := hS.blk r' _ hbl
      cases bl with
      | mp es =>
        obtain ⟨arr, clock, h8, h9, h10⟩ := hB
        refine ⟨arr, clock, by show (w.setCells (g.be r) off vs).heap[g.be r']? = _; rw [World.heap_setCells_other w (g.be r) _ _ (hS.be r' hlv').2.2.2 hne]; exact h8, h9, fun i hi hi' => ?_⟩
        obtain ⟨h11, h12, h13⟩ := h10 i hi hi'
        exact ⟨h11, h12, (mono h13).mv (fun _ => hfc _ _ _) hf0⟩
      | row zs =>
        simp only [RelB] at hB ⊢
        refine ⟨hB.1, fun i hi => ?_⟩
        obtain ⟨h2, h3⟩ := hB.2 i hi
        refine ⟨h2, fun j hj => ?_⟩
        obtain ⟨h4, h5, v, h6, h7, h8⟩ := h3 j hj
        refine ⟨h4, h5, v, ?_, ?_, (mono h8).mv (fun _ => hfc _ _ _) hf0⟩
        · show (w.setCells (g.be r) off vs).cell? ⟨g.be r', i * g.sz r' + j, none⟩ = some v
          rw [World.cell?_setCells_out (g.be r) vs off w _ (fun h1 _ => absurd h1 hne)]; exact h6
        · show (w.setCells (g.be r) off vs).frozen? ⟨g.be r', i * g.sz r' + j, none⟩ = false
          rw [World.frozen?_setCells]; exact h7
  · obtain ⟨h1, h2, h3, h4⟩ := hS.be r' hr'
    exact ⟨h1, h2, by simp [Gh.mv, h3], by rw [hs]; exact h4⟩
  · simp only [Gh.mv, Option.map_eq_some_iff] at hp
    obtain ⟨q, hq, rfl⟩ := hp
    obtain ⟨h1, h2⟩ := hS.own b q hq
    exact ⟨h1, by rw [hs]; exact h2⟩
  · simp only [Gh.mv, Option.map_eq_some_iff] at hbn
    obtain ⟨q, hq, h1⟩ := hbn
    exact hS.nil b (hf1 q h1 ▸ hq)
  · rw [hs] at hbn
    exact hS.fresh b hbn

theorem store_run {t : TypeId} {b off : Nat} {v : Value} (hz : szT P t = some v.cells.size) (hin : ∀ k, k < v.cells.size → (w.cell? ⟨b, off + k, none⟩).isSome = true ∧ w.frozen? ⟨b, off + k, none⟩ = false)
    (h1 : ∀ u ∈ v.cells.toList, u.oneCell' = true) : (Instr.storeAt t (.pointer (some ⟨b, off, none⟩)) v).run P w = .ok () (w.setCells b off v.cells.toList) := by
  have hst := run_storeCells_cells (P := P) b off v.cells.toList 0 w (fun j hj => (hin j (by simpa using hj)).1) (fun j hj => (hin j (by simpa using hj)).2) h1
  rw [Nat.add_zero] at hst
  simp only [Instr.storeAt, Instr.sureAddr, Sem.run_bind, Sem.run_pure, Result.andThen_ok, storeVar, sizeOf_run hz, ne_eq, not_true_eq_false, if_false, hst]

theorem cellsOf_mkAgg (cs : List D) : cellsOf (mkAgg cs) = cs := by
  unfold mkAgg
  cases h : allV cs with
  | none => rfl
  | some xs => rw [allV_some h]; rfl
theorem cellsOf_not {d : D} (h : isAggD d = false) : cellsOf d = [d] := by
  cases d <;> first | rfl | (simp [isAggD] at h; done) | skip
  rename_i x
  cases x <;> first | rfl | (simp [isAggD] at h; done)
theorem cellsOf_cell {d : D} (h : d.isCell = true) : cellsOf d = [d] := by
  cases d <;> first | rfl | (simp [D.isCell] at h; done) | skip
  rename_i x
  cases x <;> first | rfl | (simp [D.isCell, V.isCell] at h; done)
theorem newElem_cells {sz off : Nat} {d x : D} (hx : (cellsOf x).length = sz) (hle : off + sz ≤ (cellsOf d).length) (hc : ∀ c ∈ cellsOf x, c.isCell = true) : cellsOf (newElem sz off d x) = putAt (cellsOf d) off (cellsOf x) := by
  unfold newElem
  split
  · rename_i h
    have : off = 0 := by omega
    subst this
    simp only [putAt, List.take_zero, List.nil_append, Nat.zero_add, hx, h.1, List.drop_length, List.append_nil]
  · unfold unCells
    split
    · exact cellsOf_mkAgg _
    · rename_i h
      have hd := cellsOf_not (by simpa using h)
      rw [hd] at hle ⊢
      simp only [List.length_singleton] at hle
      by_cases h0 : sz = 0
      · have : cellsOf x = [] := List.length_eq_zero_iff.1 (by omega)
        rw [this]
        have ho : off = 0 ∨ off = 1 := by omega
        rcases ho with rfl | rfl <;> simp [putAt, hd]
      · obtain rfl : off = 0 := by omega
        have h1 : (cellsOf x).length = 1 := by omega
        obtain ⟨c, hcx⟩ := List.length_eq_one_iff.1 h1
        rw [hcx]
        simp only [putAt, List.take_zero, List.nil_append, List.length_singleton, Nat.zero_add, List.drop_one, List.tail_cons, List.append_nil, List.headD_cons]
        exact cellsOf_cell (hc c (by rw [hcx]; simp))

theorem store_ok (h : RelA w g μ τ env ts st a.tmps) (hts : ts.length = τ.length) {t : TypeId} {p x : Operand} {y z : Opd} {sz : Nat} {q : Rg} {R : Run} (hop : o.op = .store t p x)
    (hp : chkO μ τ p y = true) (hx : chkO μ τ x z = true) (hz : szT P t = some sz)
    (he : evOp R env ts st (.store sz y z) = some q) : OpRes P o a w (Post w g μ τ a.tmps q) := by
  simp only [evOp] at he
  obtain ⟨st', h1, rfl⟩ := map_some' he
  have hpr := rd_rel h hp (fun _ => .nil)
  unfold opStore at h1
  split at h1 <;> first | (cases h1; done) | skip
  rename_i r i off hd
  obtain ⟨xs, h2, h3⟩ := bind_some' h1
  have hb := rowOf_some h2
  obtain ⟨d, h4, h5⟩ := bind_some' h3
  split at h5 <;> cases h5
  rename_i hcond
  obtain ⟨c1, c2, c3, c4⟩ := hcond
  obtain ⟨hi, rfl⟩ := List.getElem?_eq_some_iff.1 h4
  rw [hd] at hpr
  generalize hv : a.eval p = v at hpr
  cases hpr with | ptr _ _ _ _ hlv =>
  obtain ⟨fm, k1, k2, k3, k4⟩ := take_rel h hts hx
  obtain ⟨hl, hc⟩ := k2.cells c3
  obtain ⟨hM, hL, ho, hsz⟩ := h.s.be r hlv
  have hB := h.s.blk r _ hb
  simp only [RelB] at hB
  have hBn := hB.1
  replace hB := hB.2
  obtain ⟨hBl, hBi⟩ := hB i hi
  have hin : ∀ k, k < (a.eval x).cells.toList.length → (w.cell? ⟨g.be r, i * g.sz r + off + k, none⟩).isSome = true ∧ w.frozen? ⟨g.be r, i * g.sz r + off + k, none⟩ = false := fun k hk => by
    have hk' : k < sz := by simp at hk; omega
    obtain ⟨_, _, v, e1, e2, _⟩ := hBi (off + k) (by omega)
    rw [Nat.add_assoc, e1]; exact ⟨rfl, e2⟩
  have one : ∀ u ∈ (a.eval x).cells.toList, u.oneCell' = true := fun u hu => by
    obtain ⟨k, hk, rfl⟩ := List.getElem_of_mem hu
    have hk' : k < (a.eval x).cells.size := by simpa using hk
    have := (hc k (by omega)).2.one (hc k (by omega)).1
    simpa using this
  have run : (execOp a.eval o).run P w = .ok .skip (w.setCells (g.be r) (i * g.sz r + off) (a.eval x).cells.toList) := by
    simp only [execOp, hop, hv]
    exact run_u (store_run (by rw [hz, ← c1, hl]) (fun k hk => hin k (by simpa using hk)) one)
  refine res_skip run ?_
  let f : Pl → Pl := fun p => match p with | .tmp b k => if b = τ.length then .cell r i (off + k) else .tmp b k | p => p
  have hcs : ∀ c ∈ cellsOf (takeO env ts z).1, c.isCell = true := fun c hcm => by
    obtain ⟨k, hk, rfl⟩ := List.getElem_of_mem hcm
    exact (hc k hk).1
  have hnew := newElem_cells (d := xs[i]) c1 c2 hcs
  have hlen : ∀ j (hj : j < (xs.set i (newElem sz off xs[i] (takeO env ts z).1)).length), (cellsOf (xs.set i (newElem sz off xs[i] (takeO env ts z).1))[j]).length = (g.mv fm).sz r := fun j hj => by
    rw [List.getElem_set]
    split
    · rw [hnew, putAt_len _ _ _ (by omega)]; exact hBl
    · exact (hB j (by simpa using hj)).1
  have hS : RelS (w.setCells (g.be r) (i * g.sz r + off) (a.eval x).cells.toList) ((g.mv fm).mv f) (setB st r (.row (xs.set i (newElem sz off xs[i] (takeO env ts z).1)))) := by
    refine set_blk k1.s hb rfl rfl (fun p hp => by cases p <;> simp only [f] at hp <;> first | rfl | (cases hp; done) | (split at hp <;> cases hp)) (fun r i j => rfl) hin (by simp) hlen (fun i' hi' j hj => ?_)
    have hjz : j < g.sz r := by rw [hlen i' hi'] at hj; exact hj
    by_cases e : i = i'
    · subst e
      have hget : (xs.set i (newElem sz off xs[i] (takeO env ts z).1))[i] = newElem sz off xs[i] (takeO env ts z).1 := by simp
      have hp := putAt_get (cellsOf xs[i]) (cellsOf (takeO env ts z).1) off (by omega) j
      have hj2 : j < (putAt (cellsOf xs[i]) off (cellsOf (takeO env ts z).1)).length := by rw [putAt_len _ _ _ (by omega), hBl]; exact hjz
      have hgc : (cellsOf (xs.set i (newElem sz off xs[i] (takeO env ts z).1))[i])[j] = (putAt (cellsOf xs[i]) off (cellsOf (takeO env ts z).1))[j] := by
        simp only [hget, hnew]
      rw [hgc]
      rw [List.getElem?_eq_getElem hj2] at hp
      by_cases hr : off ≤ j ∧ j < off + (cellsOf (takeO env ts z).1).length
      · rw [if_pos hr] at hp
        have hk : j - off < (cellsOf (takeO env ts z).1).length := by omega
        rw [List.getElem?_eq_getElem hk] at hp
        rw [Option.some.inj hp]
        refine .inl ⟨j - off, _, fun _ => .tmp τ.length (j - off), (by show i * g.sz r + off + (j - off) = i * g.sz r + j; omega), ?_, (hc _ hk).1, refs_cells c4 _ hk, (hc _ hk).2, ?_⟩
        · rw [List.getElem?_eq_getElem (by simp; omega)]; simp
        · have : off + (j - off) = j := by omega
          simp [f, this]
      · rw [if_neg hr] at hp
        refine .inr ⟨?_, hi, by rw [hBl]; exact hjz, ?_⟩
        · have e5 : (a.eval x).cells.toList.length = (cellsOf (takeO env ts z).1).length := by simp [hl]
          rw [e5]
          show i * g.sz r + j < i * g.sz r + off ∨ _
          show _ ∨ _ ≤ i * g.sz r + j
          omega
        · rw [List.getElem?_eq_getElem (by rw [hBl]; exact hjz)] at hp
          exact Option.some.inj hp
    · have hi2 : i' < xs.length := by simpa using hi'
      have hget : (xs.set i (newElem sz off xs[i] (takeO env ts z).1))[i'] = xs[i'] := List.getElem_set_ne e _
      refine .inr ⟨?_, hi2, by rw [(hB i' hi2).1]; exact hjz, by simp only [hget]⟩
      have e5 : (a.eval x).cells.toList.length = (cellsOf (takeO env ts z).1).length := by simp [hl]
      rw [e5]
      show i' * g.sz r + j < i * g.sz r + off ∨ i * g.sz r + off + _ ≤ i' * g.sz r + j
      rcases Nat.lt_or_gt_of_ne e with hlt | hlt
      · right
        have := mul_at (sz := g.sz r) hlt (j := off + (cellsOf (takeO env ts z).1).length - 1)
        have e6 : (i + 1) * g.sz r ≤ i' * g.sz r := Nat.mul_le_mul_right _ hlt
        rw [Nat.add_mul, Nat.one_mul] at e6
        omega
      · left
        have e6 : (i' + 1) * g.sz r ≤ i * g.sz r := Nat.mul_le_mul_right _ hlt
        rw [Nat.add_mul, Nat.one_mul] at e6
        omega
  have mono : ∀ {pl : Nat → Pl} {d : D} {v : Value}, RelD w (g.mv fm) pl d v → RelD (w.setCells (g.be r) (i * g.sz r + off) (a.eval x).cells.toList) (g.mv fm) pl d v := fun hd =>
    poke_mono k1.s hL (by simp [Gh.mv, ho]) hd
  refine ⟨(g.mv fm).mv f, (Ext.mv fm).trans ((poke_ext (g := g.mv fm) hM hL).trans (Ext.mv f)), ⟨hS, fun i t hi => (mono (k1.e i t hi)).mv (fun _ => rfl) rfl, fun j t hj => (mono (k1.t j t hj)).mv (fun k => ?_) rfl⟩, .undef _ _⟩
  have := idxOf_lt hj
  have hne : ¬ τ.length - 1 - j = τ.length := by omega
  simp [f, hne]
end
end Go.Q
