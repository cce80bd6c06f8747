/- Slice expressions, fields, elements, loads: what the abstract machine tells of them holds. No condition. -/
import Derived.Test.YtmbdamompcdolaaDoorEvP
set_option linter.unusedVariables false
set_option linter.unusedSimpArgs false
set_option linter.unusedSectionVars false
namespace Go.Q
variable [Known]
section
variable {P : Program} {w : World} {g : Gh}

inductive RelO (w : World) (g : Gh) : Option D → Option Value → Prop
  | none : RelO w g none none
  | some (pl d v) (h : RelD w g pl d v) : RelO w g (some d) (some v)
theorem opt_rel {μ τ env ts st} {a : Act} (h : RelA w g μ τ env ts st a.tmps) {x : Option Operand} {y : Option Opd} (hc : chkOpt μ τ x y = true) : RelO w g (y.map (rd env ts)) (x.map a.eval) := by
  cases x <;> cases y <;> simp [chkOpt] at hc <;> first | exact .none | exact .some (fun _ => .nil) _ _ (rd_rel h hc _)

theorem bnd_ok {d : D} {v : Value} {n m l : Nat} {pl : Nat → Pl} (c : BoundsCode) (h : RelD w g pl d v) (hb : bndOf d n = some l) (hm : n ≤ m) :
    (Instr.sliceBound v m c).run P w = .ok l w ∧ l ≤ n := by
  obtain ⟨i, h1, h2⟩ := bind_some' hb
  obtain ⟨k, rfl, rfl⟩ := asN_rel h h1
  split at h2 <;> cases h2
  rename_i hi
  have : 0 ≤ i ∧ i ≤ (m : Int) := ⟨hi.1, by omega⟩
  refine ⟨by simp [Instr.sliceBound, asIntOf, this], by omega⟩

theorem bnds_ok {lo hi : Option D} {vl vh : Option Value} {n m l h : Nat} (isS : Bool) (hl : RelO w g lo vl) (hh : RelO w g hi vh) (hb : bnds n lo hi = some (l, h)) (hm : n ≤ m) :
    (Instr.sliceBounds isS n m vl vh none).run P w = .ok (l, h, m) w ∧ l ≤ h ∧ h ≤ n := by
  obtain ⟨h', h1, h2⟩ := bind_some' hb
  obtain ⟨l', h3, h4⟩ := map_some' h2
  cases h4
  cases hh with
  | none =>
    simp only [bndHi] at h1
    cases h1
    cases hl with
    | none =>
      simp only [bndLo] at h3
      cases h3
      exact ⟨by simp [Instr.sliceBounds], Nat.zero_le _, Nat.le_refl _⟩
    | some pl d v hd =>
      simp only [bndLo] at h3
      obtain ⟨h5, h6⟩ := bnd_ok (P := P) (m := n) (.sliceB) hd h3 (Nat.le_refl _)
      exact ⟨by simp [Instr.sliceBounds, h5], h6, Nat.le_refl _⟩
  | some pl d v hd =>
    simp only [bndHi] at h1
    obtain ⟨h5, h6⟩ := bnd_ok (P := P) (m := m) (if isS then .sliceAcap else .sliceAlen) hd h1 hm
    cases hl with
    | none =>
      simp only [bndLo] at h3
      cases h3
      exact ⟨by simp [Instr.sliceBounds, h5], Nat.zero_le _, h6⟩
    | some pl d v hd =>
      simp only [bndLo] at h3
      obtain ⟨h7, h8⟩ := bnd_ok (P := P) (m := h) (.sliceB) hd h3 (Nat.le_refl _)
      exact ⟨by simp [Instr.sliceBounds, h5, h7], h8, h6⟩

theorem add_at (b o n : Nat) : (⟨b, o, none⟩ : Addr).add n = ⟨b, o + n, none⟩ := Addr.add_mid b o n

/-- a piece of a slice by contents -/
theorem RelV.sub {L : Nat → Nat} {z : Nat} {xs : List V} {ad : Option Addr} {n c l h m : Nat} (hv : RelV w L (.slc z xs) (.slice ad n c)) (h1 : l ≤ h) (h2 : h ≤ xs.length) (h3 : h ≤ m) :
    RelV w L (.slc z ((xs.take h).drop l)) (.slice (if m = l then ad else ad.map (·.add (l * z))) (h - l) (m - l)) := by
  by_cases hlh : l = h
  · subst hlh
    have : (xs.take l).drop l = [] := List.drop_eq_nil_of_le (by simp; omega)
    rw [this, Nat.sub_self]
    exact .slc0 _ _ _
  · cases hv with
    | slc0 => simp at h2; omega
    | slc _ _ b o _ f hc hs hL hv hk hr =>
      have hm : ¬ m = l := by omega
      rw [if_neg hm]
      have hlen : ((xs.take h).drop l).length = h - l := by simp; omega
      have hget : ∀ i (hi : i < ((xs.take h).drop l).length), ((xs.take h).drop l)[i] = xs[l + i]'(by rw [hlen] at hi; omega) := fun i hi => by simp
      have e : ∀ i j, o + l * z + i * z + j = o + (l + i) * z + j := fun i j => by rw [Nat.add_mul]; omega
      rw [show h - l = ((xs.take h).drop l).length from hlen.symm]
      simp only [Option.map_some, add_at]
      refine .slc z _ b (o + l * z) _ (fun i j => f (l + i) j) (by omega) (fun i hi => ?_) (fun i j hi hj => ?_) (fun i j hi hj => ?_) (fun i hi j hj => ?_) (fun i hi j hj => ?_)
      · rw [hget i hi]; exact hs _ _
      · rw [e]; exact hL _ _ (by omega) hj
      · rw [e]; exact hv _ _ (by omega) hj
      · simp only [hget i hi] at hj ⊢; exact hk _ _ _ hj
      · simp only [hget i hi] at hj ⊢; exact hr _ _ _ hj

theorem slice_run {t e : TypeId} {ad : Option Addr} {n c l h m z : Nat} {vl vh vm : Option Value} (hu : uSlc P t = some e) (hz : szT P e = some z)
    (hb : (Instr.sliceBounds true n c vl vh vm).run P w = .ok (l, h, m) w) :
    (Instr.sliceAt t (.slice ad n c) vl vh vm).run P w = .ok (.slice (if m = l then ad else ad.map (·.add (l * z))) (h - l) (m - l)) w := by
  obtain ⟨i, hi, rfl⟩ := of_szT P hz
  have hu := of_uSlc P hu
  simp only [Instr.sliceAt, Sem.run_bind, run_underlying hu, Result.andThen_ok, Instr.slice, hb, sizeOf, typeInfo, run_program, hi, Sem.run_pure]

theorem slc_shape {L : Nat → Nat} {z : Nat} {xs : List V} {v : Value} (h : RelV w L (.slc z xs) v) : ∃ ad c, v = .slice ad xs.length c ∧ xs.length ≤ c := by
  cases h with
  | slc0 sz a c => exact ⟨_, _, rfl, Nat.zero_le _⟩
  | slc sz xs b o c f hc => exact ⟨_, _, rfl, hc⟩

theorem bnd3_ok {lo : Option D} {hd md : D} {vl : Option Value} {vh vm : Value} {n c l h m : Nat} {pl pl' : Nat → Pl} (hl : RelO w g lo vl) (hh : RelD w g pl hd vh) (hm : RelD w g pl' md vm)
    (hb1 : bndOf md n = some m) (hb : bnds m lo (some hd) = some (l, h)) (hc : n ≤ c) :
    (Instr.sliceBounds true n c vl (some vh) (some vm)).run P w = .ok (l, h, m) w ∧ l ≤ h ∧ h ≤ m ∧ m ≤ n := by
  obtain ⟨h1, h2⟩ := bnd_ok (P := P) (m := c) .slice3Acap hm hb1 hc
  obtain ⟨h', h3, h4⟩ := bind_some' hb
  obtain ⟨l', h5, h6⟩ := map_some' h4
  cases h6
  simp only [bndHi] at h3
  obtain ⟨h7, h8⟩ := bnd_ok (P := P) (m := m) .slice3B hh h3 (Nat.le_refl _)
  cases hl with
  | none =>
    simp only [bndLo] at h5
    cases h5
    exact ⟨by simp [Instr.sliceBounds, h1, h7], Nat.zero_le _, h8, h2⟩
  | some pl d v hd =>
    simp only [bndLo] at h5
    obtain ⟨h9, h10⟩ := bnd_ok (P := P) (m := h) .slice3C hd h5 (Nat.le_refl _)
    exact ⟨by simp [Instr.sliceBounds, h1, h7, h9], h10, h8, h2⟩

theorem sub_ok {x d : D} {v : Value} {lo hi mx : Option D} {vl vh vm : Option Value} {t e : TypeId} {sz : Nat} {pl : Nat → Pl} (hx : RelD w g pl x v) (hl : RelO w g lo vl) (hh : RelO w g hi vh) (hm : RelO w g mx vm)
    (h : opSub sz lo hi mx x = some d) (hu : uSlc P t = some e) (hz : szT P e = some sz) :
    ∃ r, (Instr.sliceAt t v vl vh vm).run P w = .ok r w ∧ ∀ pl, RelD w g pl d r := by
  unfold opSub at h
  split at h <;> first | (cases h; done) | skip
  · rename_i z xs
    split at h <;> first | (cases h; done) | skip
    rename_i hzz
    subst hzz
    obtain ⟨⟨l, h'⟩, h1, rfl⟩ := map_some' h
    cases hm
    replace hx := hx.toV
    obtain ⟨ad, c, rfl, hc⟩ := slc_shape hx
    obtain ⟨h2, h3, h4⟩ := bnds_ok (P := P) true hl hh h1 hc
    exact ⟨_, slice_run hu hz h2, fun pl => .v _ _ _ (hx.sub h3 h4 (by omega))⟩
  · rename_i md z xs
    split at h <;> first | (cases h; done) | skip
    rename_i hzz
    subst hzz
    obtain ⟨m, h1, h2⟩ := bind_some' h
    obtain ⟨hd, h3, h4⟩ := bind_some' h2
    obtain ⟨⟨l, h'⟩, h5, h6⟩ := map_some' h4
    cases hm with | some pl2 _ vm' hmd =>
    subst h3
    cases hh with | some pl1 _ vh' hhd =>
    replace hx := hx.toV
    obtain ⟨ad, c, rfl, hc⟩ := slc_shape hx
    obtain ⟨h7, h8, h9, h10⟩ := bnd3_ok (P := P) hl hhd hmd h1 h5 hc
    refine ⟨_, slice_run hu hz h7, fun pl => ?_⟩
    have hr := hx.sub (m := m) h8 (by omega) h9
    simp only at h6
    split at h6
    · rename_i he
      subst h6
      refine .lin _ _ _ _ hr ?_
      exact .inl (by have he' : h' = m := he; omega)
    · subst h6; exact .v _ _ _ hr
  · rename_i z
    obtain ⟨⟨l, h'⟩, h1, rfl⟩ := map_some' h
    cases hm
    cases hx
    obtain ⟨h2, h3, h4⟩ := bnds_ok (P := P) true hl hh h1 (Nat.le_refl 0)
    obtain rfl : h' = 0 := by omega
    obtain rfl : l = 0 := by omega
    exact ⟨_, slice_run hu hz h2, fun pl => .nils _ _⟩
  · rename_i r z off len fl
    split at h <;> first | (cases h; done) | skip
    rename_i hzz
    subst hzz
    obtain ⟨⟨l, h'⟩, h1, rfl⟩ := map_some' h
    cases hm
    cases hx with | own _ _ _ _ _ _ c ad hlv hc hzr ha =>
    obtain ⟨h2, h3, h4⟩ := bnds_ok (P := P) true hl hh h1 hc.1
    refine ⟨_, slice_run hu hz h2, fun pl => ?_⟩
    by_cases hcl : c = l
    · rw [if_pos hcl]
      exact .own _ _ _ _ _ _ _ ad hlv ⟨by simp only at h3 h4 ⊢; omega, fun hx => by have := hc.2 hx; simp only at h3 h4 ⊢; omega⟩ hzr (fun hn => by exfalso; simp at hn; omega)
    · rw [if_neg hcl]
      refine .own _ _ _ _ _ _ _ _ hlv ⟨by simp only at h3 h4 ⊢; omega, fun hx => by have := hc.2 hx; simp only at h3 h4 ⊢; omega⟩ hzr (fun hn => ?_)
      rw [ha (by simp at hn; omega)]; show (⟨_, _, none⟩ : Addr).add _ = _; rw [add_at, Nat.add_mul]
  · rename_i r i off len
    split at h <;> first | (cases h; done) | skip
    rename_i hzz
    subst hzz
    obtain ⟨⟨l, h'⟩, h1, rfl⟩ := map_some' h
    cases hm
    cases hx with | arr _ _ _ _ _ c ad hlv hc ha =>
    obtain ⟨h2, h3, h4⟩ := bnds_ok (P := P) true hl hh h1 hc
    refine ⟨_, slice_run hu hz h2, fun pl => ?_⟩
    by_cases hcl : c = l
    · rw [if_pos hcl]
      exact .arr _ _ _ _ _ _ ad hlv (by simp; omega) (fun hn => by exfalso; simp at hn; omega)
    · rw [if_neg hcl]
      refine .arr _ _ _ _ _ _ _ hlv (by simp; omega) (fun hn => ?_)
      rw [ha (by simp at hn; omega)]; show (⟨_, _, none⟩ : Addr).add _ = _; rw [add_at, Nat.mul_one, Nat.add_assoc]

theorem subs_ok {x d : D} {v : Value} {lo hi : Option D} {vl vh : Option Value} {t : TypeId} {pl : Nat → Pl} (hx : RelD w g pl x v) (hl : RelO w g lo vl) (hh : RelO w g hi vh)
    (h : opSubs lo hi x = some d) (hu : uStr P t = true) :
    ∃ r, (Instr.sliceAt t v vl vh none).run P w = .ok r w ∧ ∀ pl, RelD w g pl d r := by
  unfold opSubs at h
  split at h <;> first | (cases h; done) | skip
  obtain ⟨⟨l, h'⟩, h1, rfl⟩ := map_some' h
  obtain ⟨b, rfl, rfl⟩ := strOf hx
  have hlen : b.data.toList.length = b.size := by simp
  rw [hlen] at h1
  obtain ⟨h2, h3, h4⟩ := bnds_ok (P := P) false hl hh h1 (Nat.le_refl _)
  have hu := of_uStr P hu
  refine ⟨.string (b.extract l h'), by simp [Instr.sliceAt, run_underlying hu, Instr.slice, h2], fun pl => .v _ _ _ ?_⟩
  have := RelV.str (w := w) (L := g.L) (b.extract l h')
  have e : (b.extract l h').data.toList = (b.data.toList.take h').drop l := by
    simp [ByteArray.data_extract, List.extract, List.drop_take]
  rw [e] at this
  exact this

theorem subA_ok {x d : D} {v : Value} {lo hi mx : Option D} {vl vh vm : Option Value} {t e : TypeId} {n : Nat} {pl : Nat → Pl} (hx : RelD w g pl x v) (hl : RelO w g lo vl) (hh : RelO w g hi vh) (hm : RelO w g mx vm)
    (h : opSubA n lo hi mx x = some d) (hu : uArr P t = some (n, e)) (hz : szT P e = some 1) :
    ∃ r, (Instr.sliceAt t v vl vh vm).run P w = .ok r w ∧ ∀ pl, RelD w g pl d r := by
  obtain ⟨i, hi', hsz⟩ := of_szT P hz
  have hu := of_uArr P hu
  have run : ∀ (ad : Addr) (l h' : Nat), (Instr.sliceBounds false n n vl vh none).run P w = .ok (l, h', n) w →
      (Instr.sliceAt t (.pointer (some ad)) vl vh none).run P w = .ok (.slice (some (if n = l then ad else ad.add l)) (h' - l) (n - l)) w := by
    intro ad l h' hb
    simp [Instr.sliceAt, run_underlying hu, Instr.sureAddr, hb, sizeOf, typeInfo, hi', hsz]
  have piece : ∀ (cs : List V) (b o : Nat) (f : Nat → Value) (l h' : Nat), n ≤ cs.length → l ≤ h' → h' ≤ n → (∀ j, j < cs.length → o + j < g.L b) → (∀ j, j < cs.length → w.cell? ⟨b, o + j, none⟩ = some (f j)) →
      (∀ j (h : j < cs.length), cs[j].isCell = true) → (∀ j (h : j < cs.length), RelV w g.L cs[j] (f j)) →
      RelV w g.L (.slc 1 (((cs.take n).take h').drop l)) (.slice (some (if n = l then ⟨b, o, none⟩ else (⟨b, o, none⟩ : Addr).add l)) (h' - l) (n - l)) := by
    intro cs b o f l h' hn h1 h2 h3 h4 h5 h6
    by_cases hlh : l = h'
    · subst hlh
      have : ((cs.take n).take l).drop l = [] := List.drop_eq_nil_of_le (by simp; omega)
      rw [this, Nat.sub_self]
      exact .slc0 _ _ _
    · rw [if_neg (by omega), add_at]
      have hlen : (((cs.take n).take h').drop l).length = h' - l := by simp; omega
      have hget : ∀ i (hi : i < (((cs.take n).take h').drop l).length), (((cs.take n).take h').drop l)[i] = cs[l + i]'(by rw [hlen] at hi; omega) := fun i hi => by simp
      have hone : ∀ y : V, y.isCell = true → cellsV y = [y] := fun y hy => by cases y <;> first | rfl | (simp [V.isCell] at hy; done)
      rw [show h' - l = (((cs.take n).take h').drop l).length from hlen.symm]
      refine .slc 1 _ b (o + l) _ (fun i j => f (l + i)) (by omega) (fun i hi => ?_) (fun i j hi hj => ?_) (fun i j hi hj => ?_) (fun i hi j hj => ?_) (fun i hi j hj => ?_)
      · rw [hget i hi, hone _ (h5 _ _)]; rfl
      · have := h3 (l + i) (by omega); omega
      · have := h4 (l + i) (by omega); rw [← this]; congr 2; omega
      · simp only [hget i hi, hone _ (h5 _ _)] at hj ⊢
        have : j = 0 := by simpa using hj
        subst this; exact h5 _ _
      · simp only [hget i hi, hone _ (h5 _ _)] at hj ⊢
        have : j = 0 := by simpa using hj
        subst this; exact h6 _ _
  unfold opSubA at h
  split at h <;> first | (cases h; done) | skip
  · rename_i r i off
    obtain ⟨⟨l, h'⟩, h1, rfl⟩ := map_some' h
    cases hm
    cases hx with | ptr _ _ _ _ hlv =>
    obtain ⟨h2, h3, h4⟩ := bnds_ok (P := P) false hl hh h1 (Nat.le_refl _)
    refine ⟨_, run _ _ _ h2, fun pl => ?_⟩
    refine .arr _ _ _ _ _ _ _ hlv (by simp; omega) (fun hn => ?_)
    rw [if_neg (by simp at hn; omega), add_at, Nat.add_assoc]
  · rename_i cs off
    split at h <;> first | (cases h; done) | skip
    rename_i hle
    obtain ⟨⟨l, h'⟩, h1, rfl⟩ := map_some' h
    cases hm
    cases hx with | va _ _ _ b o f a1 a2 a3 a4 =>
    obtain ⟨h2, h3, h4⟩ := bnds_ok (P := P) false hl hh h1 (Nat.le_refl _)
    refine ⟨_, run _ _ _ h2, fun pl => .v _ _ _ ?_⟩
    have := piece (cs.drop off) b (o + off) (fun j => f (off + j)) l h' (by simp; omega) h3 h4 (fun j hj => by have := a1 (off + j) (by simp at hj; omega); omega)
      (fun j hj => by have := a2 (off + j) (by simp at hj; omega); rw [← this]; congr 2; omega) (fun j hj => by simp only [List.getElem_drop]; exact a3 _ _) (fun j hj => by simp only [List.getElem_drop]; exact a4 _ _)
    exact this
  · rename_i cs
    split at h <;> first | (cases h; done) | skip
    rename_i hle
    obtain ⟨⟨l, h'⟩, h1, rfl⟩ := map_some' h
    cases hm
    replace hx := hx.toV
    cases hx with | pt _ b o f a1 a2 a3 a4 =>
    obtain ⟨h2, h3, h4⟩ := bnds_ok (P := P) false hl hh h1 (Nat.le_refl _)
    exact ⟨_, run _ _ _ h2, fun pl => .v _ _ _ (piece cs b o f l h' hle h3 h4 a1 a2 a3 a4)⟩

/-! ### Addresses -/
theorem fa_ok {x d : D} {v : Value} {t : TypeId} {fs : Array Field} {k off s : Nat} {q : Field} {pl : Nat → Pl} (hx : RelD w g pl x v) (h : opFa off x = some d)
    (hu : uStruct P t = some fs) (hq : fs[k]? = some q) (ho : q.offset = off) (hs : szT P q.type = some s) (hs0 : s ≠ 0) :
    ∃ r, (Instr.fieldAt t v k).run P w = .ok r w ∧ ∀ pl, RelD w g pl d r := by
  obtain ⟨i, hi, hsz⟩ := of_szT P hs
  have hu := of_uStruct P hu
  have run : ∀ (ad : Addr), (Instr.fieldAt t (.pointer (some ad)) k).run P w = .ok (.pointer (some (ad.add off))) w := by
    intro ad
    simp [Instr.fieldAt, run_underlying hu, hq, Instr.sureAddr, fieldPlace, sizeOf, typeInfo, hi, hsz, hs0, ho]
  unfold opFa at h
  split at h <;> first | (cases h; done) | skip
  · cases h
    cases hx with | ptr _ r i o hlv =>
    refine ⟨_, run _, fun pl => ?_⟩
    rw [add_at, Nat.add_assoc]
    exact .ptr _ _ _ _ hlv
  · cases h
    cases hx with | va _ cs o b o' f a1 a2 a3 a4 =>
    refine ⟨_, run _, fun pl => ?_⟩
    rw [add_at, Nat.add_assoc]
    exact .va _ _ _ _ _ _ a1 a2 a3 a4
  · cases h
    replace hx := hx.toV
    cases hx with | pt _ b o f a1 a2 a3 a4 =>
    refine ⟨_, run _, fun pl => ?_⟩
    rw [add_at]
    exact .va _ _ _ _ _ _ a1 a2 a3 a4

theorem ix_ok {d : D} {v : Value} {n k : Nat} {pl : Nat → Pl} (h : RelD w g pl d v) (hb : ixOf d n = some k) : ∃ kk i, v = .int kk i ∧ 0 ≤ i ∧ i < (n : Int) ∧ i.toNat = k ∧ k < n := by
  obtain ⟨i, h1, h2⟩ := bind_some' hb
  obtain ⟨kk, rfl, rfl⟩ := asN_rel h h1
  split at h2 <;> cases h2
  rename_i hi
  exact ⟨kk, i, rfl, hi.1, hi.2, rfl, by omega⟩

theorem ia_ok {x i d : D} {v u : Value} {t e : TypeId} {sz : Nat} {pl pl' : Nat → Pl} (hx : RelD w g pl x v) (hi : RelD w g pl' i u) (h : opIa sz i x = some d)
    (hu : uSlc P t = some e) (hz : szT P e = some sz) : ∃ r, (Instr.indexAt t v u).run P w = .ok r w ∧ ∀ pl, RelD w g pl d r := by
  obtain ⟨inf, hinf, hsz⟩ := of_szT P hz
  have hu := of_uSlc P hu
  have run : ∀ (ad : Addr) (n c : Nat) (kk : IntKind) (j : Int), 0 ≤ j → j < (n : Int) → (Instr.indexAt t (.slice (some ad) n c) (.int kk j)).run P w = .ok (.pointer (some (ad.add (j.toNat * sz)))) w := by
    intro ad n c kk j h0 h1
    simp [Instr.indexAt, asIntOf, run_underlying hu, h0, h1, sizeOf, typeInfo, hinf, hsz]
  unfold opIa at h
  split at h <;> first | (cases h; done) | skip
  · rename_i z xs
    obtain ⟨n, h1, h2⟩ := bind_some' h
    obtain ⟨y, h3, h4⟩ := bind_some' h2
    obtain ⟨kk, j, rfl, h5, h6, rfl, h7⟩ := ix_ok hi h1
    unfold vaOf at h4
    split at h4 <;> cases h4
    rename_i hy
    replace hx := hx.toV
    cases hx with
    | slc0 => simp at h7
    | slc _ _ b o c f a1 a2 a3 a4 a5 a6 =>
      have hget : xs[j.toNat] = y := by rw [List.getElem?_eq_getElem h7] at h3; exact Option.some.inj h3
      have hzz : z = sz := by rw [← a2 _ h7, hget, hy]
      refine ⟨_, run _ _ _ kk j h5 h6, fun pl => ?_⟩
      rw [add_at]
      have e : o + j.toNat * sz = o + j.toNat * sz + 0 := rfl
      rw [e]
      subst hzz
      subst hget
      exact .va _ _ _ b (o + j.toNat * z) (fun k => f j.toNat k) (fun k hk => a3 _ _ h7 (by rw [hy] at hk; exact hk)) (fun k hk => a4 _ _ h7 (by rw [hy] at hk; exact hk)) (fun k hk => a5 _ h7 _ hk) (fun k hk => a6 _ h7 _ hk)
  · rename_i r z off len fl
    split at h <;> first | (cases h; done) | skip
    rename_i hzz
    subst hzz
    obtain ⟨n, h1, rfl⟩ := map_some' h
    obtain ⟨kk, j, rfl, h5, h6, rfl, h7⟩ := ix_ok hi h1
    cases hx with | own _ _ _ _ _ _ c ad hlv hc hzr ha =>
    refine ⟨_, run _ _ _ kk j h5 h6, fun pl => ?_⟩
    rw [ha (by omega), add_at]
    have e : off * z + j.toNat * z = (off + j.toNat) * g.sz r + 0 := by rw [hzr, Nat.add_mul]; rfl
    rw [e]
    exact .ptr _ _ _ _ hlv
  · rename_i r k off len
    split at h <;> first | (cases h; done) | skip
    rename_i hzz
    subst hzz
    obtain ⟨n, h1, rfl⟩ := map_some' h
    obtain ⟨kk, j, rfl, h5, h6, rfl, h7⟩ := ix_ok hi h1
    cases hx with | arr _ _ _ _ _ c ad hlv hc ha =>
    refine ⟨_, run _ _ _ kk j h5 h6, fun pl => ?_⟩
    rw [ha (by omega), add_at, Nat.mul_one, Nat.add_assoc]
    exact .ptr _ _ _ _ hlv

theorem iaA_ok {x i d : D} {v u : Value} {t e : TypeId} {len sz : Nat} {pl pl' : Nat → Pl} (hx : RelD w g pl x v) (hi : RelD w g pl' i u) (h : opIaA len sz i x = some d)
    (hu : uArr P t = some (len, e)) (hz : szT P e = some sz) : ∃ r, (Instr.indexAt t v u).run P w = .ok r w ∧ ∀ pl, RelD w g pl d r := by
  obtain ⟨inf, hinf, hsz⟩ := of_szT P hz
  have hu := of_uArr P hu
  have run : ∀ (ad : Addr) (kk : IntKind) (j : Int), 0 ≤ j → j < (len : Int) → (Instr.indexAt t (.pointer (some ad)) (.int kk j)).run P w = .ok (.pointer (some (ad.add (j.toNat * sz)))) w := by
    intro ad kk j h0 h1
    simp [Instr.indexAt, asIntOf, run_underlying hu, Instr.sureAddr, h0, h1, sizeOf, typeInfo, hinf, hsz]
  obtain ⟨n, h1, h2⟩ := bind_some' h
  obtain ⟨kk, j, rfl, h5, h6, rfl, h7⟩ := ix_ok hi h1
  unfold opFa at h2
  split at h2 <;> first | (cases h2; done) | skip
  · cases h2
    cases hx with | ptr _ r i o hlv =>
    refine ⟨_, run _ kk j h5 h6, fun pl => ?_⟩
    rw [add_at, Nat.add_assoc]
    exact .ptr _ _ _ _ hlv
  · cases h2
    cases hx with | va _ cs o b o' f a1 a2 a3 a4 =>
    refine ⟨_, run _ kk j h5 h6, fun pl => ?_⟩
    rw [add_at, Nat.add_assoc]
    exact .va _ _ _ _ _ _ a1 a2 a3 a4
  · cases h2
    replace hx := hx.toV
    cases hx with | pt _ b o f a1 a2 a3 a4 =>
    refine ⟨_, run _ kk j h5 h6, fun pl => ?_⟩
    rw [add_at]
    exact .va _ _ _ _ _ _ a1 a2 a3 a4

theorem idx_ok {x i d : D} {v u : Value} {t : TypeId} {pl pl' : Nat → Pl} (hx : RelD w g pl x v) (hi : RelD w g pl' i u) (h : opIdx i x = some d) (hu : uStr P t = true) :
    ∃ r, (Instr.index t v u).run P w = .ok r w ∧ ∀ pl, RelD w g pl d r := by
  unfold opIdx at h
  split at h <;> first | (cases h; done) | skip
  rename_i s
  obtain ⟨n, h1, h2⟩ := bind_some' h
  obtain ⟨c, h3, rfl⟩ := map_some' h2
  obtain ⟨kk, j, rfl, h5, h6, rfl, h7⟩ := ix_ok hi h1
  obtain ⟨b, rfl, rfl⟩ := strOf hx
  have hu := of_uStr P hu
  have hb : b[j.toNat]? = some c := by
    rw [← h3]
    have : j.toNat < b.size := by simpa using h7
    rw [getElem?_pos b j.toNat this, List.getElem?_eq_getElem h7]
    rfl
  exact ⟨.int .u8 c.toNat, by simp [Instr.index, asIntOf, run_underlying hu, h5, hb], fun pl => .v _ _ _ (.int _ _)⟩

theorem cells1_at : ∀ {xs : List V}, cells1 xs = true → ∀ i (h : i < xs.length), xs[i].isCell = true
  | [], _, i, h => by simp at h
  | x :: r, hc, 0, h => by simp [cells1] at hc; exact hc.1
  | x :: r, hc, i + 1, h => by simp [cells1] at hc; exact cells1_at hc.2 i (by simpa using h)
theorem s2a_ok {x d : D} {v : Value} {t e : TypeId} {n : Nat} {pl : Nat → Pl} (hx : RelD w g pl x v) (h : s2aD n x = some d) (hn : n ≠ 0) (hu : uArr P t = some (n, e)) (hz : szT P e = some 1) :
    ∃ r, (Instr.arrayAt t v).run P w = .ok r w ∧ ∀ pl, RelD w g pl d r := by
  have hu := of_uArr P hu
  have run : ∀ (ad : Option Addr) (l c : Nat), n ≤ l → (Instr.arrayAt t (.slice ad l c)).run P w = .ok (.pointer ad) w := by
    intro ad l c hl
    have : ¬ l < n := by omega
    simp [Instr.arrayAt, run_underlying hu, this]
  unfold s2aD at h
  split at h <;> first | (cases h; done) | skip
  · rename_i z xs
    split at h <;> cases h
    rename_i hzz
    obtain ⟨rfl, hle, hcl⟩ := hzz
    have hcell := cells1_at hcl
    replace hx := hx.toV
    cases hx with
    | slc0 => simp at hle; omega
    | slc _ _ b o c f a1 a2 a3 a4 a5 a6 =>
      have hone : ∀ y : V, y.isCell = true → cellsV y = [y] := fun y hy => by cases y <;> first | rfl | (simp [V.isCell] at hy; done)
      refine ⟨_, run _ _ _ hle, fun pl => ?_⟩
      have hlt : ∀ j, j < (xs.take n).length → j < xs.length := fun j hj => by simp at hj; omega
      refine .va _ (xs.take n) 0 b o (fun j => f j 0) (fun j hj => ?_) (fun j hj => ?_) (fun j hj => ?_) (fun j hj => ?_)
      · have := a3 j 0 (hlt j hj) (by omega); omega
      · have := a4 j 0 (hlt j hj) (by omega); rw [← this]; congr 2; omega
      · simp only [List.getElem_take]; exact hcell _ _
      · have h1 := a6 j (hlt j hj) 0 (by rw [a2 _ (hlt j hj)]; omega)
        simp only [List.getElem_take]
        simp only [hone _ (hcell j (hlt j hj)), List.getElem_cons_zero] at h1
        exact h1
  · rename_i r i off len
    split at h <;> cases h
    rename_i hle
    cases hx with | arr _ _ _ _ _ c ad hlv hc ha =>
    refine ⟨_, run _ _ _ hle, fun pl => ?_⟩
    rw [ha (by omega)]
    exact .ptr _ _ _ _ hlv
end
end Go.Q
