/- make, []byte(s), string(b). No condition. -/
import Derived.Test.YtmbdamompcdolaaDoorEvH
set_option linter.unusedVariables false
set_option linter.unusedSimpArgs false
set_option linter.unusedSectionVars false
namespace Go.Q
variable [Known]
section
variable {P : Program} {w : World} {g : Gh} {μ : List Nat} {τ : List (Option Nat)} {env ts : List D} {st : St} {a : Act} {o : Oper}

theorem madeCells_at {z : Array Value} {n i j sz : Nat} (hz : z.size = sz) (hi : i < n) (hj : j < sz) : (madeCells z (n * sz))[i * sz + j]? = z[j]? := by
  have h1 : i * sz + j < n * sz := by
    have : (i + 1) * sz ≤ n * sz := Nat.mul_le_mul_right _ (by omega)
    rw [Nat.add_mul] at this; omega
  have h3 : (i * sz + j) % sz = j := by
    rw [Nat.mul_comm, Nat.mul_add_mod]; exact Nat.mod_eq_of_lt hj
  subst hz
  simp [madeCells, h1, h3, hj]

theorem make_ok (h : RelA w g μ τ env ts st a.tmps) {t e : TypeId} {n c : Operand} {n' c' : Opd} {sz bytes : Nat} {z : D} {zv : Value} {q : Rg} {R : Run} {inf : TypeInfo} (hop : o.op = .makeSlice t n c)
    (hn : chkO μ τ n n' = true) (hc : chkO μ τ c c' = true) (hu : uSlc P t = some e) (hi : P.info? e = some inf) (hs : inf.size = sz) (hb : inf.bytes = bytes) (hb0 : bytes ≠ 0) (hzv : inf.zero = some zv)
    (hz : chkZ zv.cells.toList (cellsOf z) = true)
    (he : evOp R env ts st (.make sz bytes z n' c') = some q) : OpRes P o a w (Post w g μ τ a.tmps q) := by
  simp only [evOp] at he
  obtain ⟨x, h1, h2⟩ := bind_some' he
  obtain ⟨y, h3, h4⟩ := bind_some' h2
  obtain ⟨k1, _, e1⟩ := asN_rel (rd_rel h hn (fun _ => .nil)) h1
  obtain ⟨k2, _, e2⟩ := asN_rel (rd_rel h hc (fun _ => .nil)) h3
  have hlen : (cellsOf z).length = zv.cells.size := by simpa using (chkZ_rel (w := w) (g := g) hz).1
  have run : 0 ≤ x → x ≤ y → y * bytes ≤ maxB → (execOp a.eval o).run P w = .ok (.value (.slice (some ⟨w.heap.size, 0, none⟩) x.toNat y.toNat)) (w.alloc (.cells (madeCells zv.cells (y.toNat * inf.size)) e)) := by
    intro h0 hxy hby
    have hby2 : (inf.bytes : Int) * y ≤ 281474976710656 := by
      rw [hb, Int.mul_comm]
      have : (maxB : Int) = 140737488355328 := rfl
      omega
    have h63 : y ≤ 9223372036854775807 := by
      have h5 : y * 1 ≤ y * (bytes : Int) := Int.mul_le_mul_of_nonneg_left (by omega) (by omega)
      have : (maxB : Int) = 140737488355328 := rfl
      omega
    simp only [execOp, hop, e1, e2]
    exact run_v (run_make w t e inf zv (of_uSlc P hu) hi hzv k1 k2 x y h0 hxy hby2 h63)
  unfold makeD at h4
  split at h4
  · rename_i hcond
    obtain ⟨c1, c2, c3, c4⟩ := hcond
    subst c2
    cases h4
    refine res_ok (run c1 (Int.le_refl _) c3) ?_
    have hsz : zv.cells.size = inf.size := by omega
    obtain ⟨g', k1, k2, k3, k4, k5, k6⟩ := zeros_core (n := y.toNat) (C := madeCells zv.cells (y.toNat * inf.size)) (E := e) h hz (fun i j hi hj => by rw [hsz] at hj ⊢; exact madeCells_at hsz hi hj) (addB_none st _) (getB_addB st _)
    refine ⟨g', k1, k2, ?_⟩
    exact RelD.own _ _ _ _ _ _ _ _ k3 ⟨Nat.le_refl _, fun _ => by rw [k6]; omega⟩ (by rw [k5, c4]) (fun _ => by rw [k4, Nat.zero_mul])
  · split at h4 <;> cases h4
    rename_i hcond
    obtain ⟨rfl, c2, c3⟩ := hcond
    refine res_ok (run (Int.le_refl _) c2 c3) ?_
    subst hs
    exact new_lin (ys := []) (f := fun _ _ => undef) (ob := .cells (madeCells zv.cells (y.toNat * inf.size)) e) 0 h ⟨fun i h => by simp at h, fun i h => by simp at h, fun i h => by simp at h⟩ (Nat.zero_le _) (fun i j hi => by simp at hi) (fun j hj => by
      rw [drewN_zero, World.cell?_alloc_new, World.frozen?_alloc_new]
      refine ⟨?_, rfl⟩
      rw [Array.getElem?_eq_getElem (by rw [size_madeCells]; exact hj)]
      rfl)

theorem s2b_ok (h : RelA w g μ τ env ts st a.tmps) {s t e : TypeId} {x : Operand} {y : Opd} {q : Rg} {R : Run} (hop : o.op = .convert s t x)
    (hc : chkO μ τ x y = true) (hs : uStr P s = true) (hu : uSlc P t = some e) (hi : uInt P e = some .u8)
    (he : evOp R env ts st (.s2b y) = some q) : OpRes P o a w (Post w g μ τ a.tmps q) := by
  simp only [evOp] at he
  obtain ⟨l, h1, rfl⟩ := map_some' he
  unfold strD at h1
  split at h1 <;> cases h1
  rename_i hd
  have hr := rd_rel h hc (fun _ => .nil)
  rw [hd] at hr
  obtain ⟨f, E, S⟩ := elems_rel (st := st) (sz := 1) (ys := l.map fun b => .int .u8 b.toNat) h.s hr (by simp [elems])
  obtain ⟨b, e1, e2⟩ := strOf hr
  rw [e1] at S
  cases S with | str _ _ hn hf =>
  refine res_ok (v := .slice (some ⟨w.heap.size, 0, none⟩) b.size (grownCap w b.size 0 e)) (by
    simp only [execOp, hop, e1]
    exact run_v (run_bytes_of_string w s t e b (of_uStr P hs) (of_uSlc P hu) (of_uInt P hi))) ?_
  have hsize : (bytesRow b (grownCap w b.size 0 e)).size = grownCap w b.size 0 e := by
    have := grownCap_ge w b.size 0 e
    simp only [bytesRow, Array.size_append, Array.size_map, Array.size_replicate]
    have h5 : b.data.size = b.size := rfl
    omega
  have := new_lin (c := grownCap w b.size 0 e) (ob := .cells (bytesRow b (grownCap w b.size 0 e)) e ((bytesRow b (grownCap w b.size 0 e)).size, (bytesRow b (grownCap w b.size 0 e)).size + 1)) 1 h E (by rw [← hn]; exact grownCap_ge _ _ _ _) (fun i j hi hj => by
    obtain rfl : j = 0 := by omega
    have hi' : i < b.data.size := by have h5 : b.data.size = b.size := rfl; omega
    show (w.drew.alloc _).cell? ⟨w.drew.heap.size, _, none⟩ = _
    rw [World.cell?_alloc_mark, Nat.mul_one, Nat.add_zero, bytesRow_at b _ i hi', hf i hi']
    rfl) (fun j hj => by
    show ((w.drew.alloc _).cell? ⟨w.drew.heap.size, _, none⟩).isSome = true ∧ (w.drew.alloc _).frozen? ⟨w.drew.heap.size, _, none⟩ = false
    rw [World.cell?_alloc_mark, World.frozen?_alloc_mark]
    refine ⟨by rw [Array.getElem?_eq_getElem (by omega)]; rfl, ?_⟩
    have : ¬ (bytesRow b (grownCap w b.size 0 e)).size ≤ j := by omega
    simp [this])
  rw [← hn] at this
  exact this

theorem bytesOf_at : ∀ {ys : List V} {s : List UInt8}, bytesOf ys = some s → s.length = ys.length ∧ ∀ i (h : i < ys.length) (h' : i < s.length), ys[i] = .int .u8 (s[i].toNat : Int)
  | [], s, h => by simp only [bytesOf] at h; cases h; exact ⟨rfl, fun i h => by simp at h⟩
  | y :: r, s, h => by
    unfold bytesOf at h
    split at h <;> first | (cases h; done) | skip
    · rename_i hh; cases hh
    · rename_i n r' hh
      cases hh
      split at h <;> first | (cases h; done) | skip
      rename_i hn
      obtain ⟨s', h1, rfl⟩ := map_some' h
      obtain ⟨h2, h3⟩ := bytesOf_at h1
      refine ⟨by simp [h2], fun i hi hi' => ?_⟩
      cases i with
      | zero =>
        simp only [List.getElem_cons_zero]
        congr 1
        have : n.toNat < 256 := by omega
        simp only [UInt8.toNat_ofNat']
        omega
      | succ i => exact h3 i (by simpa using hi) (by simpa using hi')

theorem b2s_ok (h : RelA w g μ τ env ts st a.tmps) {s t e : TypeId} {x : Operand} {y : Opd} {q : Rg} {R : Run} (hop : o.op = .convert s t x)
    (hc : chkO μ τ x y = true) (ht : uStr P t = true) (hu : uSlc P s = some e) (hi : uInt P e = some .u8)
    (he : evOp R env ts st (.b2s y) = some q) : OpRes P o a w (Post w g μ τ a.tmps q) := by
  simp only [evOp] at he
  obtain ⟨l, h1, rfl⟩ := map_some' he
  obtain ⟨ys, h2, h3⟩ := bind_some' h1
  have hr := rd_rel h hc (fun _ => .nil)
  have hel : elems 1 st (rd env ts y) = some ys := by
    obtain ⟨x', h4, h5⟩ := bind_some' h2
    generalize rd env ts y = d at h2 h4
    cases d <;> first | exact h2 | skip
    rename_i x''
    cases x'' <;> first | exact h2 | skip
    simp only [rdV] at h4
    cases h4
    simp [slcOf] at h5
  obtain ⟨f, E, S⟩ := elems_rel h.s hr hel
  obtain ⟨h6, h7⟩ := bytesOf_at h3
  have hf : ∀ i (hi : i < ys.length), f i 0 = .int .u8 ((l[i]'(by omega)).toNat : Int) := fun i hi => by
    have h8 := E.rel i hi 0
    rw [h7 i hi (by omega)] at h8
    have := h8 (by simp [cellsV])
    simp only [cellsV, List.getElem_cons_zero] at this
    exact intOf (RelD.v (g := g) (fun _ => .nil) _ _ this)
  have res : ∀ v, a.eval x = v → (convert s t v).run P w = .ok (.string ⟨l.toArray⟩) w → OpRes P o a w (Post w g μ τ a.tmps (.v (.str l), env, ts, st)) := fun v hv hrun => by
    refine res_val h (v := .string ⟨l.toArray⟩) (by simp only [execOp, hop, hv]; exact run_v hrun) (.v _ _ _ ?_)
    have := RelV.str (w := w) (L := g.L) ⟨l.toArray⟩
    simpa using this
  generalize hv : a.eval x = v at S hr
  cases S with
  | str b _ _ _ =>
    exfalso
    obtain ⟨x', h4, h5⟩ := bind_some' h2
    generalize rd env ts y = d at h4 hr
    cases hr with
    | v _ _ _ hx => simp only [rdV] at h4; cases h4; cases hx; simp [slcOf] at h5
    | lin _ _ _ _ hx hs => exact hs.elim
    | undef => simp [rdV, toV] at h4
  | sl ad c hcn hcell =>
    refine res _ hv ?_
    by_cases h0 : ys.length = 0
    · have : l = [] := List.length_eq_zero_iff.1 (by omega)
      subst this
      cases ad with
      | none => exact run_convert_bytes_nil w s e (of_uSlc P hu) (of_uInt P hi) _ _ t (of_uStr P ht)
      | some ad =>
        have := run_convert_bytes_back w s t e ad c [] (of_uSlc P hu) (of_uInt P hi) (of_uStr P ht) (fun j hj => by simp at hj)
        rw [h0]; exact this
    · obtain ⟨b, off, rfl, h9⟩ := hcell h0
      have := run_convert_bytes_back w s t e ⟨b, off, none⟩ c l (of_uSlc P hu) (of_uInt P hi) (of_uStr P ht) (fun j hj => by
        have := h9 j 0 (by omega) (by omega)
        rw [add_at, Nat.mul_one, Nat.add_zero] at *
        rw [this, hf j (by omega)])
      rw [h6] at this
      exact this
end
end Go.Q
