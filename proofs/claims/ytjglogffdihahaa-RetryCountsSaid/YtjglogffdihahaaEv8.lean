/- Regions whose order is drawn: the calm ones, in whatever order. No condition. -/
import Derived.Test.YtjglogffdihahaaEv7
set_option linter.unusedVariables false
set_option linter.unusedSimpArgs false
namespace Go.Q
section
variable {P : Program} {w : World} {g : Gh} {μ : List Nat} {τ τ' : List (Option Nat)} {env ts : List D} {st : St} {a : Act} {q : Rg} {R : Run} {nt : Nat} {dfs : List Deferred} {ops : Array Oper} {Q : Exit → Act → World → Prop}

theorem count_spec : ∀ (l : List Bool) (k : Nat), (∀ i, i < l.length → (l[i]?).getD false = decide (i < k)) → k ≤ l.length → l.count false + k = l.length
  | [], k, _, hk => by simp at hk; simp [hk]
  | b :: l, 0, h, _ => by
    have h0 := h 0 (by simp)
    simp at h0
    subst h0
    have := count_spec l 0 (fun i hi => by have := h (i + 1) (by simpa using hi); simpa using this) (Nat.zero_le _)
    simp; omega
  | b :: l, k + 1, h, hk => by
    have h0 := h 0 (by simp)
    simp at h0
    subst h0
    have := count_spec l k (fun i hi => by have := h (i + 1) (by simpa using hi); simpa using this) (by simpa using hk)
    simp; omega
theorem count_set : ∀ (l : List Bool) (i : Nat), l[i]? = some false → (l.set i true).count false + 1 = l.count false
  | [], i, h => by simp at h
  | b :: l, 0, h => by simp at h; subst h; simp
  | b :: l, i + 1, h => by
    have := count_set l i (by simpa using h)
    simp only [List.set_cons_succ, List.count_cons]
    omega
theorem count_zero : ∀ (l : List Bool) (i : Nat), l.count false = 0 → i < l.length → (l[i]?).getD false = true
  | [], i, _, h => by simp at h
  | b :: l, i, h0, h => by
    cases b with
    | false => simp at h0
    | true =>
      cases i with
      | zero => rfl
      | succ i => simp at h0; have := count_zero l i (by simpa using h0) (by simpa using h); simpa using this

theorem chkAs_at {m : Nat} : ∀ {os : List Oper} {ss : List SOper} {i0 : Nat}, chkAs μ nt P ops τ m i0 os ss = true → ∀ i (h : i < ss.length), ∃ o, os[i]? = some o ∧ chkA μ nt P ops τ m (i0 + i) o ss[i] = true
  | os, [], i0, _, i, h => by simp at h
  | [], s :: ss, i0, hc, i, h => by simp [chkAs] at hc
  | o :: os, s :: ss, i0, hc, i, h => by
    simp only [chkAs, Bool.and_eq_true] at hc
    cases i with
    | zero => exact ⟨o, rfl, hc.1⟩
    | succ i =>
      obtain ⟨o', h1, h2⟩ := chkAs_at hc.2 i (by simpa using h)
      refine ⟨o', by simpa using h1, ?_⟩
      have : i0 + (i + 1) = i0 + 1 + i := by omega
      rw [this]; exact h2

theorem idx_inj {t d j : Nat} (h1 : τ.idxOf? (some t) = some j) (h2 : τ.idxOf? (some d) = some j) : t = d := by
  simp only [List.idxOf?, List.findIdx?_eq_some_iff_getElem] at h1 h2
  obtain ⟨_, h3, _⟩ := h1
  obtain ⟨_, h4, _⟩ := h2
  simp at h3 h4
  have := h3.symm.trans h4
  simpa using this

/-- a calm operation's value goes where it belongs -/
theorem putA_rel {i j : Nat} {d : D} {v : Value} {dst : Option Tmp} {x : Dst} (hs : a.tmps.size = nt) (hj : j = τ.length - 1 - i) (hi : i < τ.length) (hl : ts.length = τ.length) (hc : dstA μ nt τ j dst x = true)
    (h : RelA w g μ τ env ts st a.tmps) (hd : RelD w g (.tmp τ.length) d v) : ∃ f, RelA w (g.mv f) μ τ env (ts.set j (outD x d)) st (a.put dst v).tmps := by
  have hid : g.mv id = g := by simp [Gh.mv]
  have drop : ∀ (dst : Option Tmp), (∀ e, dst = some e → μ.contains e = false ∧ τ.contains (some e) = false) → RelA w g μ τ env (ts.set j .undef) st (a.put dst v).tmps := by
    intro dst e2
    have same : ∀ t, (∀ e, dst = some e → t ≠ e) → (a.put dst v).tmps.getD t undef = a.tmps.getD t undef := fun t ht => by
      cases dst with
      | none => rfl
      | some e => rw [put_getD, if_neg (fun hh => ht e rfl hh.1)]
    refine ⟨h.s, fun i t hi => ?_, fun k t hk => ?_⟩
    · rw [same t (fun e he => mu_ne (e2 e he).1 hi)]; exact h.e i t hi
    · rw [same t (fun e he => notmem (e2 e he).2 hk), getT_set]
      split
      · exact .undef _ _
      · exact h.t k t hk
  unfold dstA at hc
  split at hc
  · exact ⟨id, by rw [hid]; exact drop none (fun e he => by cases he)⟩
  · rename_i d'
    simp only [Bool.and_eq_true, Bool.not_eq_true'] at hc
    exact ⟨id, by rw [hid]; exact drop (some d') (fun e he => by cases he; exact hc)⟩
  · rename_i d'
    simp only [Bool.and_eq_true, Bool.not_eq_true', decide_eq_true_eq, beq_iff_eq] at hc
    obtain ⟨⟨h1, h2⟩, h3⟩ := hc
    let f : Pl → Pl := fun p => match p with | .tmp b k => if b = τ.length then .tmp i k else .tmp b k | p => p
    refine ⟨f, h.s.mv rfl (fun p hp => by cases p <;> simp only [f] at hp <;> first | rfl | (cases hp; done) | (split at hp <;> cases hp)) (fun r i j => rfl), fun i' t hi' => ?_, fun k t hk => ?_⟩
    · rw [put_getD, if_neg (fun hh => mu_ne h1 hi' hh.1)]
      exact (h.e i' t hi').mv (fun _ => rfl) rfl
    · rw [getT_set, put_getD]
      by_cases e : j = k
      · subst e
        have ht := idx_inj hk h3
        subst ht
        rw [if_pos (show j = j ∧ j < ts.length from ⟨rfl, by omega⟩), if_pos (show t = t ∧ t < a.tmps.size from ⟨rfl, hs ▸ h2⟩)]
        have e' : τ.length - 1 - j = i := by omega
        rw [e']
        exact hd.mv (fun k => by simp [f]) rfl
      · have hne : t ≠ d' := fun e2 => by subst e2; rw [h3] at hk; cases hk; exact e rfl
        rw [if_neg (fun hh => e hh.1), if_neg (fun hh => hne hh.1)]
        have hlt := idxOf_lt hk
        exact (h.t k t hk).mv (fun kk => by
          have hne : ¬ τ.length - 1 - k = τ.length := by omega
          simp [f, hne]) rfl
  · cases hc

theorem head_sound (hμ : μ.Nodup) (hR : ROk P R) (hL : RLen R) {m : Nat} {ss rest : List SOper} {ts1 : List D} {r : List D × List D × St} (hss : ss.length = m) (hmn : m ≤ ops.size) (hA : chkAs μ nt P ops τ m 0 ops.toList ss = true) (hB : chkB ops m = true)
    (hτ : τ.length = m) (hts1 : ts1.length = m) (hst : st ≠ []) (trace : ∀ i (h : i < ss.length), StepOk R env st ss[i] (ts1.drop (m - i) ++ []) (getT ts1 (m - 1 - i)))
    (hc : chkOps μ nt P ops (ops.toList.drop m) rest τ = some τ') (he : evOps R rest env ts1 st = some r) : ∀ (fuel : Nat) (listed : Array Bool) (tsS : List D) (a : Act) (w : World) (g : Gh),
    listed.size = ops.size → listed.toList.count false = fuel → (∀ i, m ≤ i → i < ops.size → listed.getD i false = false) → tsS.length = m → (∀ i, i < m → getT tsS (m - 1 - i) = if listed.getD i false = true then getT ts1 (m - 1 - i) else .undef) →
    RelA w g μ τ env tsS st a.tmps → a.tmps.size = nt → a.defers = dfs → (∀ a' w' g', Ext w w' g g' → At w' g' μ nt dfs τ' r.1 r.2.1 r.2.2 a' → Q .normal a' w') → wpAny P .any ops Q fuel listed a w := by
  intro fuel
  have getDl : ∀ (listed : Array Bool) i, listed.getD i false = (listed.toList[i]?).getD false := fun listed i => by simp [Array.getD_eq_getD_getElem?]
  -- all calm ones done
  have done : ∀ (fuel : Nat) (listed : Array Bool) (tsS : List D) (a : Act) (w : World) (g : Gh), listed.size = ops.size → listed.toList.count false = fuel → (∀ i, m ≤ i → i < ops.size → listed.getD i false = false) → tsS.length = m → (∀ i, i < m → getT tsS (m - 1 - i) = if listed.getD i false = true then getT ts1 (m - 1 - i) else .undef) →
      RelA w g μ τ env tsS st a.tmps → a.tmps.size = nt → a.defers = dfs → (∀ a' w' g', Ext w w' g g' → At w' g' μ nt dfs τ' r.1 r.2.1 r.2.2 a' → Q .normal a' w') → (∀ i, i < m → listed.getD i false = true) → wpAny P .any ops Q fuel listed a w := by
    intro fuel listed tsS a w g l1 l2 l3 l4 l5 l6 l7 l8 K hall
    have hspec : ∀ i, i < ops.size → listed.getD i false = decide (i < m) := fun i hi => by
      by_cases h : i < m
      · rw [hall i h]; simp [h]
      · rw [l3 i (by omega) hi]; simp [h]
    have hcnt := count_spec listed.toList m (fun i hi => by rw [← getDl]; exact hspec i (by simpa [l1] using hi)) (by simp; omega)
    refine tail_sound hμ hR hL hB fuel m rest τ env ts1 st a w g listed r (by simp only [Array.length_toList] at hcnt; omega) (Nat.le_refl _) l1 hspec hc ⟨⟨l6.s, l6.e, fun j t hj => ?_⟩, l7, l8, by rw [hts1, hτ], hst⟩ he K
    have := l6.t j t hj
    have hlt := idxOf_lt hj
    have h5 := l5 (m - 1 - j) (by omega)
    have e : m - 1 - (m - 1 - j) = j := by omega
    rw [e, hall _ (by omega), if_pos rfl] at h5
    rw [← h5]; exact this
  induction fuel with
  | zero =>
    intro listed tsS a w g l1 l2 l3 l4 l5 l6 l7 l8 K
    exact done 0 listed tsS a w g l1 l2 l3 l4 l5 l6 l7 l8 K (fun i hi => by rw [getDl]; exact count_zero _ i l2 (by simp; omega))
  | succ fuel ih =>
    intro listed tsS a w g l1 l2 l3 l4 l5 l6 l7 l8 K
    by_cases hall : ∀ i, i < m → listed.getD i false = true
    · exact done (fuel + 1) listed tsS a w g l1 l2 l3 l4 l5 l6 l7 l8 K hall
    · -- the first that is not done is ready
      have gd : ∀ i, i < ops.size → listed.getD i true = listed.getD i false := fun i hi => by
        simp only [Array.getD_eq_getD_getElem?, Array.getElem?_eq_getElem (show i < listed.size by omega), Option.getD_some]
      obtain ⟨i0, hi0, hf0, hmin⟩ : ∃ i0, i0 < m ∧ listed.getD i0 false = false ∧ ∀ j, j < i0 → listed.getD j false = true := by
        have : ∃ i, i < m ∧ listed.getD i false = false := Classical.byContradiction fun hn => hall fun i hi => by
          cases hh : listed.getD i false with
          | true => rfl
          | false => exact absurd ⟨i, hi, hh⟩ hn
        obtain ⟨i, hi, hf⟩ := this
        induction i using Nat.strongRecOn with
        | _ i ih2 =>
          by_cases hex : ∃ j, j < i ∧ listed.getD j false = false
          · obtain ⟨j, hj, hfj⟩ := hex
            exact ih2 j hj (by omega) hfj
          · exact ⟨i, hi, hf, fun j hj => by
              cases hh : listed.getD j false with
              | true => rfl
              | false => exact absurd ⟨j, hj, hh⟩ hex⟩
      have ho0 : ops[i0]? = some (ops[i0]'(by omega)) := Array.getElem?_eq_getElem _
      have mem : i0 ∈ Region.ready .any ops listed := ready_mem.2 ⟨by omega, by rw [gd i0 (by omega)]; exact hf0, _, ho0, back_listed (chkB_at hB ho0).1 hmin⟩
      refine ⟨fun hn => by rw [hn] at mem; simp at mem, fun i hi => ?_⟩
      obtain ⟨h1, h2, o, ho, h3⟩ := ready_mem.1 hi
      have him : i < m := by
        refine Classical.byContradiction fun hn => ?_
        have := hasAfter_listed ((chkB_at hB ho).2 (by omega) i0 (by omega)) h3
        rw [hf0] at this; cases this
      have hfi : listed.getD i false = false := by rw [← gd i h1]; exact h2
      obtain ⟨o', ho', hcA⟩ := chkAs_at hA i (by omega)
      have : o' = o := by
        have e : ops.toList[i]? = ops[i]? := by simp
        rw [e, ho] at ho'
        exact (Option.some.inj ho').symm
      subst this
      simp only [Nat.zero_add] at hcA
      simp only [chkA, Bool.and_eq_true] at hcA
      obtain ⟨⟨⟨⟨⟨k1, k2⟩, k3⟩, k4⟩, k5⟩, k6⟩ := hcA
      obtain ⟨b, t1, t2⟩ := trace i (by omega)
      rw [List.append_nil] at t1 t2
      -- what it reads is there
      have seen : ∀ j, j < i → hasAfter o' (i - 1 - j) = true → getT tsS (j + (m - i)) = getT (ts1.drop (m - i)) j := fun j hj hh => by
        have h5 := hasAfter_listed hh h3
        have h6 := l5 (i - 1 - j) (by omega)
        have e : m - 1 - (i - 1 - j) = j + (m - i) := by omega
        rw [e, if_pos h5] at h6
        rw [h6, getT_drop, Nat.add_comm]
      have hAt : At w g μ nt dfs τ env tsS st a := ⟨l6, l7, l8, by rw [l4, hτ], hst⟩
      have hwant : wantO tsS (shO (m - i) ss[i]).g = some b := by
        rw [← t1]
        simp only [shO]
        cases hg : (ss[i]).g with
        | none => rfl
        | some p =>
          obtain ⟨j, c⟩ := p
          rw [hg] at k4
          simp only [gA, Bool.and_eq_true, decide_eq_true_eq] at k4
          simp only [Option.map_some, wantO]
          rw [seen j k4.1 k4.2]
      have hw := wanted_rel (s := shO (m - i) ss[i]) hAt k5 hwant
      have hreads : ∀ j ∈ readsT (ss[i]).op, getT tsS (j + (m - i)) = getT (ts1.drop (m - i)) j := fun j hj => by
        have := List.all_eq_true.1 k3 j hj
        simp only [Bool.and_eq_true, decide_eq_true_eq] at this
        exact seen j this.1 this.2
      -- afterwards
      have next : ∀ (d : D) (v : Value) (w1 : World) (g1 : Gh), Ext w w1 g g1 → RelA w1 g1 μ τ env tsS st a.tmps → RelD w1 g1 (.tmp τ.length) d v → getT ts1 (m - 1 - i) = outD (ss[i]).dst d → wpAny P .any ops Q fuel (listed.setIfInBounds i true) (a.put o'.dst v) w1 := fun d v w1 g1 x1 x2 x3 x4 => by
        obtain ⟨f, x5⟩ := putA_rel (i := i) (j := m - 1 - i) l7 (by rw [hτ]) (by omega) (by rw [l4, hτ]) k6 x2 x3
        obtain ⟨p1, p2⟩ := put_size a o'.dst v
        refine ih (listed.setIfInBounds i true) _ _ _ _ (by simpa using l1) ?_ (fun j hj hj' => ?_) (by simpa using l4) (fun j hj => ?_) x5 (by rw [p1]; exact l7) (by rw [p2]; exact l8) (fun a' w'' g'' hx ha => K a' w'' g'' (x1.trans ((Ext.mv f).trans hx)) ha)
        · have e : (listed.setIfInBounds i true).toList = listed.toList.set i true := by simp
          have hsome : listed.toList[i]? = some false := by
            have hlt : i < listed.toList.length := by simp; omega
            rw [List.getElem?_eq_getElem hlt]
            have := getDl listed i
            rw [hfi, List.getElem?_eq_getElem hlt] at this
            simpa using this.symm
          have := count_set listed.toList i hsome
          rw [e]; omega
        · rw [getD_set (by omega), if_neg (by omega)]; exact l3 j hj hj'
        · rw [getT_set, getD_set (by omega)]
          by_cases e : j = i
          · subst e
            rw [if_pos (show m - 1 - j = m - 1 - j ∧ m - 1 - j < tsS.length from ⟨rfl, by omega⟩), if_pos rfl, if_pos rfl]
            exact x4.symm
          · rw [if_neg (by omega), if_neg e]; exact l5 j hj
      simp only [wpOp, ho]
      cases b with
      | true =>
        simp only [if_true] at t2
        obtain ⟨q, t3, t4⟩ := t2
        obtain ⟨_, e2⟩ := evOp_calm k1 t3 hreads
        rw [if_pos hw]
        left
        have hS := evOp_sound hR l6 (by rw [l4, hτ]) k2 e2
        refine OpRes.wp hS fun v w' hp => ?_
        obtain ⟨g1, x1, x2, x3⟩ := hp
        exact next q.1 v w' g1 x1 x2 x3 t4
      | false =>
        simp only [Bool.false_eq_true, if_false] at t2
        rw [if_neg (by rw [hw]; simp)]
        exact next (.tup []) undef w g (Ext.refl w g) l6 (.tup _ _ _ rfl (fun i hi => by simp at hi)) t2

theorem pre_calm : ∀ (l : List SOper), (∀ s ∈ l.take (pre l), calm s.op = true ∧ isVar s.dst = false) ∧ pre l ≤ l.length
  | [] => ⟨fun s h => by simp [pre] at h, Nat.le_refl _⟩
  | s :: l => by
    simp only [pre]
    split
    · rename_i h
      obtain ⟨h1, h2⟩ := pre_calm l
      simp only [Bool.and_eq_true, Bool.not_eq_true'] at h
      refine ⟨fun x hx => ?_, by simpa using h2⟩
      simp only [List.take_succ_cons, List.mem_cons] at hx
      rcases hx with rfl | hx
      · exact h
      · exact h1 x hx
    · exact ⟨fun s h => by simp at h, Nat.zero_le _⟩
theorem chkOps_len : ∀ {os : List Oper} {ss : List SOper} {τ τ' : List (Option Nat)}, chkOps μ nt P ops os ss τ = some τ' → os.length = ss.length ∧ τ'.length = τ.length + ss.length
  | [], [], τ, τ', h => by simp only [chkOps] at h; cases h; exact ⟨rfl, rfl⟩
  | [], _ :: _, τ, τ', h => by simp [chkOps] at h
  | _ :: _, [], τ, τ', h => by simp [chkOps] at h
  | o :: os, s :: ss, τ, τ', h => by
    simp only [chkOps] at h
    split at h <;> first | (cases h; done) | skip
    obtain ⟨τ1, c3, c4⟩ := bind_some' h
    have hτ1 : τ1.length = τ.length + 1 := by
      unfold chkDst at c3
      split at c3 <;> first | (cases c3; rfl) | (split at c3 <;> cases c3; rfl) | cases c3
    obtain ⟨h1, h2⟩ := chkOps_len c4
    exact ⟨by simp [h1], by rw [h2, hτ1]; simp; omega⟩

theorem draw_ok {id : Nat} {l : List SOper} {q : List D × List D × St} (hμ : μ.Nodup) (hR : ROk P R) (hL : RLen R)
    (hc : chkDraw μ nt P ops l = some τ') (he : evOps R l env [] st = some q) (h : At w g μ nt dfs [] env [] st a)
    (k : ∀ a' w' g', Ext w w' g g' → At w' g' μ nt dfs τ' q.1 q.2.1 q.2.2 a' → Q .normal a' w') : (Code.region id ops true).wp P Q a w := by
  obtain ⟨τ, c1, c2⟩ := bind_some' hc
  split at c2 <;> first | (cases c2; done) | skip
  rename_i hcc
  obtain ⟨hm, hA, hB⟩ := and3 hcc
  obtain ⟨hcalm, hple⟩ := pre_calm l
  have hl : (l.take (pre l)).length = pre l := by simp; omega
  obtain ⟨d1, d2⟩ := chkOps_len c1
  have hmn : pre l ≤ ops.size := by
    rw [hl] at d1
    simp at d1; omega
  have hsplit : l = l.take (pre l) ++ l.drop (pre l) := (List.take_append_drop _ _).symm
  rw [hsplit, evOps_append] at he
  obtain ⟨⟨env1, ts1, st1⟩, e1, e2⟩ := bind_some' he
  obtain ⟨f1, f2, new, f3, f4, f5⟩ := calm_trace hcalm e1
  simp only [List.append_nil] at f1 f2 f3
  subst f1 f2 f3
  rw [hl] at f4
  refine wp_region_any hm ?_
  -- one draw
  have hG : Grow w { w with drawn := w.drawn + 1 } g g := ⟨rfl, rfl, rfl, Nat.le_refl _, fun _ _ => rfl, fun _ _ => rfl, fun _ _ => Iff.rfl, fun _ _ => rfl, fun r hr => ⟨hr, rfl, rfl⟩, fun b p hb hp => by have := (h.r.s.own b p hp).2; omega, fun b hb => h.r.s.fresh b hb⟩
  have h' := hG.relA h.r (fun r => Iff.rfl)
  refine head_sound (dfs := dfs) hμ hR hL hl hmn hA hB (by rw [d2, hl]; simp) f4 h.st (fun i hi => by have := f5 i hi; simpa only [hl] using this) c2 e2 ops.size _ (List.replicate (pre l) .undef) a _ g (by simp) (by simp) (fun i _ hi => by simp [hi]) (by simp) (fun i hi => ?_) ⟨h'.s, h'.e, fun j t hj => ?_⟩ h.n h.d (fun a' w' g' hx ha => k a' w' g' ((hG.ext h.r.s).trans hx) ha)
  · rw [if_neg (by simp [show i < ops.size by omega])]
    have : ∀ (m j : Nat), getT (List.replicate m D.undef) j = .undef := by
      intro m
      induction m with
      | zero => intro j; rfl
      | succ m ih => intro j; cases j with
        | zero => rfl
        | succ j => exact ih j
    exact this _ _
  · have : ∀ (m j : Nat), getT (List.replicate m D.undef) j = .undef := by
      intro m
      induction m with
      | zero => intro j; rfl
      | succ m ih => intro j; cases j with
        | zero => rfl
        | succ j => exact ih j
    rw [this]
    exact .undef _ _
end
end Go.Q
