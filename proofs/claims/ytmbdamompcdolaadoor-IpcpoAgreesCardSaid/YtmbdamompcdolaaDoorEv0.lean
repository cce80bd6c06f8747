/- Elements that become zeros. No condition. -/
import Derived.Test.YtmbdamompcdolaaDoorEvM
import Derived.Lib.SliceRun
set_option linter.unusedVariables false
set_option linter.unusedSimpArgs false
set_option linter.unusedSectionVars false
namespace Go.Q
variable [Known]
section
variable {P : Program} {w : World} {g : Gh} {μ : List Nat} {τ : List (Option Nat)} {env ts : List D} {st : St} {a : Act} {o : Oper} {q : Rg} {R : Run}

theorem zc_at {z : Array Value} {n i j : Nat} (hi : i < n) (hj : j < z.size) : (Builtin.zeroCells z n).toList[i * z.size + j]? = z[j]? := by
  have h1 : i * z.size + j < n * z.size := by
    have : (i + 1) * z.size ≤ n * z.size := Nat.mul_le_mul_right _ (by omega)
    rw [Nat.add_mul] at this; omega
  have h3 : (i * z.size + j) % z.size = j := by
    rw [Nat.mul_comm, Nat.mul_add_mod]; exact Nat.mod_eq_of_lt hj
  simp [Builtin.zeroCells, h1, h3, hj]
theorem zc_len {z : Array Value} {n : Nat} : (Builtin.zeroCells z n).toList.length = n * z.size := by simp [Builtin.zeroCells]
theorem run_clear {t e ty : TypeId} {z : Value} (ht : P.underlying t = some (.slice e)) (hv : (zeroValue e).run P w = .ok z w) {b o n c : Nat} (hn : 0 < n)
    (h1 : ∀ u ∈ (Builtin.zeroCells z.cells n).toList, u.oneCell' = true)
    (hin : ∀ k, k < (Builtin.zeroCells z.cells n).toList.length → (w.cell? ⟨b, o + k, none⟩).isSome = true ∧ w.frozen? ⟨b, o + k, none⟩ = false) :
    (Builtin.clear_ #[t] ty #[.slice (some ⟨b, o, none⟩) n c]).run P w = .ok (.tuple #[]) (w.setCells b o (Builtin.zeroCells z.cells n).toList) := by
  have hst := run_storeCells_cells (P := P) b o (Builtin.zeroCells z.cells n).toList 0 w (fun k hk => (hin k hk).1) (fun k hk => (hin k hk).2) h1
  simp only [Nat.add_zero] at hst
  obtain ⟨m, rfl⟩ : ∃ m, n = m + 1 := ⟨n - 1, by omega⟩
  simp [Builtin.clear_, run_underlying ht, hv, hst]
theorem run_clear0 {t e ty : TypeId} (ht : P.underlying t = some (.slice e)) {a : Option Addr} {c : Nat} : (Builtin.clear_ #[t] ty #[.slice a 0 c]).run P w = .ok (.tuple #[]) w := by
  cases a <;> simp [Builtin.clear_, run_underlying ht]

theorem clr_get (xs : List D) (z : D) (off len : Nat) (h : off + len ≤ xs.length) (i : Nat) : (xs.take off ++ (List.replicate len z ++ xs.drop (off + len)))[i]? = if off ≤ i ∧ i < off + len then some z else xs[i]? := by
  have hl : (xs.take off).length = off := by simp; omega
  by_cases h1 : i < off
  · rw [List.getElem?_append_left (by omega), List.getElem?_take_of_lt h1, if_neg (by omega)]
  · rw [List.getElem?_append_right (by omega), hl]
    by_cases h2 : i < off + len
    · rw [List.getElem?_append_left (by simp; omega), List.getElem?_replicate, if_pos (by omega), if_pos (by omega)]
    · rw [List.getElem?_append_right (by simp; omega), List.length_replicate, List.getElem?_drop, if_neg (by omega)]
      congr 1; omega
theorem clr_ok (h : RelA w g μ τ env ts st a.tmps) {c : Call} {x : Operand} {t e : TypeId} {x' : Opd} {sz : Nat} {z : D} {zv : Value} (hop : o.op = .call c)
    (hb : builtinOf c = some .clear) (ha : c.args.toList = [x]) (hat : c.argTypes.toList = [t]) (hx : chkO μ τ x x' = true) (ht : uSlc P t = some e) (hsz : szT P e = some sz) (hsz0 : sz ≠ 0)
    (hzv : zeroT P e = some zv) (hz : chkZ zv.cells.toList (cellsOf z) = true) (hzs : zv.cells.size = sz)
    (he : evOp R env ts st (.clr sz z x') = some q) : OpRes P o a w (Post w g μ τ a.tmps q) := by
  simp only [evOp] at he
  obtain ⟨st', h1, rfl⟩ := map_some' he
  have hargs : c.args = #[x] := by rw [← ha]
  have hargT : c.argTypes = #[t] := by rw [← hat]
  have run : ∀ r w', (Builtin.clear_ #[t] o.type #[a.eval x]).run P w = .ok r w' → (execOp a.eval o).run P w = .ok (.value r) w' := fun r w' hr => by
    simp only [execOp, hop, resolve, builtinOf_eq hb, hargs, hargT]
    simp only [Sem.run_bind, Sem.run_pure, Result.andThen_ok, invoke, builtin, List.map_toArray, List.map_cons, List.map_nil]
    rw [hr]
    rfl
  have tup0 : ∀ {w' : World} {g' : Gh}, RelD w' g' (.tmp τ.length) (.tup []) (.tuple #[]) := fun {w' g'} => .tup _ _ _ rfl (fun i hi => by simp at hi)
  have hr := rd_rel h hx (fun _ => .nil)
  unfold opClr at h1
  split at h1 <;> first | (cases h1; done) | skip
  rename_i r z' off len fl hd
  split at h1 <;> first | (cases h1; done) | skip
  rename_i hzz
  subst hzz
  rw [hd] at hr
  generalize hv : a.eval x = v at hr
  cases hr with | own _ _ _ _ _ _ cap ad hlv hcl hzr had =>
  split at h1
  · rename_i h0
    cases h1
    subst h0
    exact res_ok (run _ _ (by rw [hv]; exact run_clear0 (of_uSlc P ht))) ⟨g, Ext.refl w g, h, tup0⟩
  · rename_i h0
    obtain ⟨xs, h2, h3⟩ := bind_some' h1
    have hbk := rowOf_some h2
    unfold clrRow at h3
    split at h3 <;> cases h3
    rename_i hle
    have had' := had h0
    subst had'
    obtain ⟨hM, hL, ho, hbs⟩ := h.s.be r hlv
    have hB := h.s.blk r _ hbk
    simp only [RelB] at hB
    have hBn := hB.1
    replace hB := hB.2
    have hZ := chkZ_rel (w := w) (g := g) hz
    have hzlen : (cellsOf z).length = zv.cells.size := by simpa using hZ.1
    have hvl : (Builtin.zeroCells zv.cells len).toList.length = len * z' := by rw [zc_len, hzs]
    have hin : ∀ k, k < (Builtin.zeroCells zv.cells len).toList.length → (w.cell? ⟨g.be r, off * z' + k, none⟩).isSome = true ∧ w.frozen? ⟨g.be r, off * z' + k, none⟩ = false := fun k hk => by
      rw [hvl] at hk
      have hpos : 0 < z' := by omega
      have hi : k / z' < len := Nat.div_lt_of_lt_mul (by rw [Nat.mul_comm]; exact hk)
      have hj : k % z' < z' := Nat.mod_lt _ hpos
      obtain ⟨q1, q2⟩ := hB (off + k / z') (by omega)
      obtain ⟨_, _, v', e1, e2, _⟩ := q2 (k % z') (by omega)
      have hk2 : (off + k / z') * g.sz r + k % z' = off * z' + k := by
        rw [hzr, Nat.add_mul, Nat.add_assoc]
        congr 1
        rw [Nat.mul_comm]; exact Nat.div_add_mod k z'
      rw [hk2] at e1 e2
      rw [e1]; exact ⟨rfl, e2⟩
    have one : ∀ u ∈ (Builtin.zeroCells zv.cells len).toList, u.oneCell' = true := fun u hu => by
      obtain ⟨k, hk, rfl⟩ := List.getElem_of_mem hu
      rw [hvl] at hk
      have hpos : 0 < z' := by omega
      have hi : k / z' < len := Nat.div_lt_of_lt_mul (by rw [Nat.mul_comm]; exact hk)
      have hj : k % z' < z' := Nat.mod_lt _ hpos
      have e := zc_at (z := zv.cells) (i := k / z') (j := k % z') hi (by omega)
      have hk2 : k / z' * zv.cells.size + k % z' = k := by rw [hzs, Nat.mul_comm]; exact Nat.div_add_mod k z'
      rw [hk2, List.getElem?_eq_getElem (by rw [hvl]; exact hk)] at e
      obtain ⟨q1, v', q2, q3⟩ := hZ.2 (k % z') (by omega)
      have q2' : zv.cells[k % z']? = some v' := by simpa using q2
      rw [q2'] at e
      rw [Option.some.inj e]
      exact (q3 (fun _ => .nil)).one q1
    have hrun := run_clear (P := P) (w := w) (ty := o.type) (b := g.be r) (o := off * z') (c := cap) (of_uSlc P ht) (zeroV_run hzv) (by omega : 0 < len) one hin
    refine res_ok (run _ _ (by rw [hv]; exact hrun)) ?_
    have hmv : g.mv id = g := by simp [Gh.mv]
    have hget := fun i => clr_get xs z off len hle i
    have hS : RelS (w.setCells (g.be r) (off * z') (Builtin.zeroCells zv.cells len).toList) (g.mv id) (setB st r (.row (xs.take off ++ (List.replicate len z ++ xs.drop (off + len))))) := by
      have hl2 : (xs.take off ++ (List.replicate len z ++ xs.drop (off + len))).length = xs.length := by simp; omega
      have hat : ∀ i (hi : i < (xs.take off ++ (List.replicate len z ++ xs.drop (off + len))).length), (off ≤ i ∧ i < off + len ∧ (xs.take off ++ (List.replicate len z ++ xs.drop (off + len)))[i] = z) ∨ ((i < off ∨ off + len ≤ i) ∧ ∃ hi2 : i < xs.length, (xs.take off ++ (List.replicate len z ++ xs.drop (off + len)))[i] = xs[i]) := fun i hi => by
        have e := hget i
        rw [List.getElem?_eq_getElem hi] at e
        by_cases hr : off ≤ i ∧ i < off + len
        · rw [if_pos hr] at e
          exact .inl ⟨hr.1, hr.2, Option.some.inj e⟩
        · rw [if_neg hr, List.getElem?_eq_getElem (by omega)] at e
          exact .inr ⟨by omega, by omega, Option.some.inj e⟩
      refine set_blk h.s hbk rfl rfl (fun p hp => hp) (fun r i j => rfl) hin (by simp; omega) (fun i hi => ?_) (fun i hi j hj => ?_)
      · rcases hat i hi with ⟨_, _, e⟩ | ⟨_, hi2, e⟩
        · rw [e]; omega
        · rw [e]; exact (hB i hi2).1
      · rcases hat i hi with ⟨k1, k2, e⟩ | ⟨k1, hi2, e⟩
        · left
          have hj' : j < (cellsOf z).length := by rw [← e]; exact hj
          obtain ⟨q1, v', q2, q3⟩ := hZ.2 j hj'
          have q2' : zv.cells[j]? = some v' := by simpa using q2
          have e3 := zc_at (z := zv.cells) (n := len) (i := i - off) (j := j) (by omega) (by omega)
          have e4 : (cellsOf (xs.take off ++ (List.replicate len z ++ xs.drop (off + len)))[i])[j] = (cellsOf z)[j] := by simp only [e]
          refine ⟨(i - off) * z' + j, v', fun _ => .cell r i j, ?_, ?_, ?_, ?_, ?_, rfl⟩
          · rw [hzr, ← Nat.add_assoc, ← Nat.add_mul]; congr 2; omega
          · rw [hzs] at e3; rw [e3]; exact q2'
          · rw [e4]; exact q1
          · rw [e4]; exact chkZ_refs hz _ j hj'
          · rw [e4]; exact q3 _
        · right
          have hj' : j < (cellsOf xs[i]).length := by rw [← e]; exact hj
          refine ⟨?_, hi2, hj', by simp only [e]⟩
          have hjz : j < z' := by rw [← hzr, ← (hB i hi2).1]; exact hj'
          rw [hvl, hzr]
          rcases k1 with k1 | k1
          · left
            have : (i + 1) * z' ≤ off * z' := Nat.mul_le_mul_right _ k1
            rw [Nat.add_mul, Nat.one_mul] at this
            omega
          · right
            have : (off + len) * z' ≤ i * z' := Nat.mul_le_mul_right _ k1
            rw [Nat.add_mul] at this
            omega
    rw [hmv] at hS
    have mono : ∀ {pl : Nat → Pl} {d : D} {v : Value}, RelD w g pl d v → RelD (w.setCells (g.be r) (off * z') (Builtin.zeroCells zv.cells len).toList) g pl d v := fun hd => poke_mono h.s hL ho hd
    exact ⟨g, poke_ext hM hL, ⟨hS, fun i t hi => mono (h.e i t hi), fun j t hj => mono (h.t j t hj)⟩, tup0⟩
end
end Go.Q
