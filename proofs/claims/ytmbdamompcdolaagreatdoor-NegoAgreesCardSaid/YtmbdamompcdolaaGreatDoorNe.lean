/- Negotiations: what is kept, and what is sent; the law NegoSends. No condition. -/
import Derived.Test.YtmbdamompcdolaaGreatDoorNd
import Derived.Test.YtmbdamompcdolaaGreatDoorLh
set_option linter.all false
set_option maxRecDepth 100000
namespace Go.Q
open SOp SCode
attribute [local congr] bind_c map_c
theorem cat_cons (o : Opt) (l : List Opt) : (cat (o :: l)).length = 2 + o.2.length + (cat l).length := by simp [cat]; omega
theorem cat_sub : ∀ {a b : List Opt}, a.Sublist b → (cat a).length ≤ (cat b).length
  | _, _, .slnil => Nat.le_refl _
  | _, _, .cons x h => by have := cat_sub h; rw [cat_cons]; omega
  | _, _, .cons_cons x h => by have := cat_sub h; rw [cat_cons, cat_cons]; omega
theorem cat_small (k : Nat) : ∀ (l : List Opt), (∀ o ∈ l, o.2.length ≤ k) → (cat l).length ≤ (2 + k) * l.length
  | [], _ => by simp [cat]
  | o :: l, h => by
    have h1 := h o (by simp)
    have ih := cat_small k l fun x hx => h x (by simp [hx])
    rw [cat_cons, List.length_cons, Nat.mul_add]; omega
theorem layR_le (l : List Opt) : (layR l).1.length ≤ (cat l).length := by
  unfold layR
  split
  · exact Nat.zero_le _
  · split
    · exact Nat.zero_le _
    · exact Nat.le_refl _
theorem confR_le (code id : Int) (l : List Opt) : (confR code id l).1.2.2.length ≤ (cat l).length := by
  unfold confR
  split
  · exact Nat.zero_le _
  · split
    · exact layR_le l
    · exact Nat.zero_le _
theorem bet_small (o : Opt) (own fresh : Int) : (betR o own fresh).1.2.length ≤ 4 := by
  unfold betR
  split
  · simp [big_len]
  split
  · show chapL.length ≤ 4; decide
  split
  · simp [big_len]
  · show ([] : List Int).length ≤ 4; decide
theorem jR_small (l : List Opt) (pv : Bool) (own fresh : Int) : ∀ i, i ≤ l.length → ∀ o ∈ (jR l pv own fresh i).2, o.2.length ≤ 4
  | 0, _, o, h => by simp [jR] at h
  | i + 1, hi, o, h => by
    have ih := jR_small l pv own fresh i (by omega)
    rw [jR_succ (by omega), jstep] at h
    split at h
    · exact ih o h
    · split at h
      · rcases List.mem_append.1 h with h | h
        · exact ih o h
        · rw [List.mem_singleton] at h; subst h; exact bet_small _ _ _
      · exact ih o h
theorem one_small (s : Sd) (o : Opt) (h : (oneI s o).1 = 3) : (oneI s o).2.2.length ≤ 4 := by
  unfold oneI at h ⊢
  split
  · rename_i c
    rw [if_pos c] at h
    split at h <;> simp at h
  · rename_i c
    rw [if_neg c] at h
    split
    · rename_i d; rw [if_pos d] at h; simp at h
    · rename_i d
      rw [if_neg d] at h
      split
      · simp [big_len]
      · rename_i e; rw [if_neg e] at h; simp at h
theorem jiR_small (s : Sd) (l : List Opt) : ∀ i, i ≤ l.length → (∀ o ∈ (jiR s l i).2, o.2.length ≤ 4) ∧ (jiR s l i).1.Sublist (l.take i)
  | 0, _ => ⟨fun o h => by simp [jiR] at h, by simp [jiR]⟩
  | i + 1, hi => by
    obtain ⟨ih, is⟩ := jiR_small s l i (by omega)
    rw [jiR_succ (by omega), take_succ (by omega), jiStep]
    split
    · exact ⟨ih, is.append (List.Sublist.refl _)⟩
    · split
      · rename_i h3
        refine ⟨fun o h => ?_, is.trans (List.sublist_append_left _ _)⟩
        rcases List.mem_append.1 h with h | h
        · exact ih o h
        · rw [List.mem_singleton] at h; subst h; exact one_small _ _ h3
      · exact ⟨ih, is.trans (List.sublist_append_left _ _)⟩
theorem judN_cat (r : Rl) (l : List Opt) (hn : l.length ≤ 40) (hc : (cat l).length ≤ 4000) : (cat (judN r l).2).length ≤ 4000 := by
  unfold judN
  split
  · unfold judI
    obtain ⟨h1, h2⟩ := jiR_small r.side l l.length (Nat.le_refl _)
    have h3 := jiR_len r.side l l.length (Nat.le_refl _)
    rw [List.take_length] at h2
    split
    · have := cat_sub h2; simp only; omega
    split
    · have := cat_small 4 _ h1; simp only; omega
    · exact hc
  · unfold judR
    generalize freN (IntKind.u32.wrap (r.want.2.1 + (ofR l).2.1)) = f
    have h1 := jR_small l r.pv r.want.2.1 f l.length (Nat.le_refl _)
    have h2 := rej_sub l r.pv r.want.2.1 f l.length (Nat.le_refl _)
    have h3 := jR_len l r.pv r.want.2.1 f l.length (Nat.le_refl _)
    rw [List.take_length] at h2
    split
    · have := cat_sub h2; simp only; omega
    split
    · have := cat_small 4 _ h1; simp only; omega
    · exact hc
theorem ansN_cat (n : Ng) (l : List Opt) (hn : l.length ≤ 40) (hc : (cat l).length ≤ 4000) : (cat (ansN n l).2).length ≤ 4000 := by
  unfold ansN
  simp only
  split
  · have : (keN (kds (judN n.rl l).2) l).Sublist l := List.filter_sublist
    have := cat_sub this
    simp only; omega
  · exact judN_cat n.rl l hn hc
theorem opts_cat (c : Ctl) (hb : okB c.2.2) (h0 : (optsR c).2 = 0) (hd : c.2.2.length ≤ 4000) : (cat (optsR c).1).length ≤ 4000 := by
  unfold optsR at *
  split at h0
  · simp at h0
  · rename_i hc
    obtain ⟨_, _, _, h⟩ := prs_ok 32 [] c.2.2 hb (fun o ho => by simp at ho) (fun o ho => by simp at ho)
    rw [if_neg hc, h h0]
    simp [cat]; omega
theorem askN_cat (r : Rl) : (cat (askN r)).length ≤ 4000 := by
  have h : ∀ o ∈ askN r, o.2.length ≤ 4 := fun o ho => by
    unfold askN optsI optW at ho
    split at ho
    · simp only [List.mem_cons] at ho
      rcases ho with rfl | ho
      · simp [big_len]
      · split at ho
        · simp only [List.mem_singleton] at ho; subst ho; simp [big_len]
        · cases ho
    · simp only [List.mem_append] at ho
      rcases ho with ho | ho | ho <;> split at ho <;> first | (cases ho; done) | (simp only [List.mem_singleton] at ho; subst ho; first | (simp [big_len]; done) | decide)
  have := cat_small 4 _ h
  have := (askN_ok (r := r)).2
  omega
abbrev okP (c : Ctl) : Prop := okC c ∧ c.2.2.length ≤ 4000
structure InvN (k : Nat) (x : Ng) : Prop where
  n : okN x
  s : okS x
  nk : 0 ≤ x.nk ∧ x.nk ≤ k
  left : 0 ≤ x.left ∧ x.left ≤ 3
  ak : okL x.acked ∧ x.acked.length ≤ 40
theorem InvN.up {k m : Nat} {n : Ng} (h : InvN k n) (hk : k ≤ m) : InvN m n := ⟨h.n, h.s, ⟨h.nk.1, by have := h.nk.2; omega⟩, h.left, h.ak⟩
theorem id_rng (n : Ng) : 0 ≤ idN n ∧ idN n ≤ 255 := by unfold idN; omega
theorem act_inv (term : Bool) (ca an : Ctl) (a : Int) (q : Ng × Ou) {k : Nat} (h : InvN k q.1) : InvN k (actN term ca an a q).1 := by
  obtain ⟨h1, h2, h3, h4, h5⟩ := h
  have hn := act_ok term ca an a q h1
  suffices hh : okS (actN term ca an a q).1 ∧ (actN term ca an a q).1.nk = q.1.nk ∧ (0 ≤ (actN term ca an a q).1.left ∧ (actN term ca an a q).1.left ≤ 3) ∧ (actN term ca an a q).1.acked = q.1.acked from
    ⟨hn, hh.1, by rw [hh.2.1]; exact h3, hh.2.2.1, by rw [hh.2.2.2]; exact h5⟩
  let P : Ng × Ou → Prop := fun z => okS z.1 ∧ z.1.nk = q.1.nk ∧ (0 ≤ z.1.left ∧ z.1.left ≤ 3) ∧ z.1.acked = q.1.acked
  show P _
  have hask := askN_ok (r := q.1.rl)
  unfold actN
  repeat' apply ite_P (P := P)
  all_goals first | exact ⟨h2, rfl, h4, rfl⟩ | exact ⟨h2, rfl, ⟨by simp only [sndN, senN]; omega, by simp only [sndN, senN]; omega⟩, rfl⟩ | exact ⟨hask, rfl, ⟨by simp only [sndN, senN]; omega, by simp only [sndN, senN]; omega⟩, rfl⟩
def sdB (a : Int) : Bool := decide (7 ≤ a ∧ a ≤ 12)
theorem act_out (term : Bool) (ca an : Ctl) (a : Int) (q : Ng × Ou) (hca : okC ca) (han : okP an) :
    (actN term ca an a q).2.up = (q.2.up || a == 1) ∧ (actN term ca an a q).2.down = (q.2.down || a == 2) ∧ (actN term ca an a q).2.pk.length = q.2.pk.length + (if sdB a = true then 1 else 0) ∧
    ((∀ c ∈ q.2.pk, okP c) → ∀ c ∈ (actN term ca an a q).2.pk, okP c) := by
  have hs : ∀ (c : Ctl) (z : Ng × Ou), okP c → z.2.pk = q.2.pk → ((∀ c ∈ q.2.pk, okP c) → ∀ x ∈ (sndN c z).2.pk, okP x) := fun c z hc hz h x hx => by
    simp only [sndN, hz, List.mem_append, List.mem_singleton] at hx
    rcases hx with hx | rfl
    · exact h x hx
    · exact hc
  have idr := id_rng q.1
  have cf := confR_ok 1 (idN q.1) (askN q.1.rl) (by decide) idr askN_ok.1
  have cl := confR_le 1 (idN q.1) (askN q.1.rl)
  have ac := askN_cat q.1.rl
  have rj : okB (cutR (layC ca).1 1400) ∧ (cutR (layC ca).1 1400).length ≤ 4000 := by
    have h1 := layC_ok ca hca
    unfold cutR
    rw [if_neg (by decide)]
    refine ⟨okB_take h1 _, ?_⟩
    rw [List.length_take]
    have e : max (1400 : Int) 4 - 4 = 1396 := by decide
    rw [e]
    omega
  unfold actN
  by_cases a1 : a = 1
  · subst a1; simp [sdB]
  by_cases a2 : a = 2
  · subst a2; simp [sdB]
  by_cases a3 : a = 3
  · subst a3; simp [sdB]
  by_cases a4 : a = 4
  · subst a4; simp [sdB]
  by_cases a5 : a = 5
  · subst a5; simp [sdB]
  by_cases a6 : a = 6
  · subst a6; simp [sdB]
  have b1 : (a == 1) = false := beq_ne a1
  have b2 : (a == 2) = false := beq_ne a2
  rw [if_neg a1, if_neg a2, if_neg a3, if_neg a4, if_neg a5, if_neg a6, b1, b2, Bool.or_false, Bool.or_false]
  by_cases a7 : a = 7
  · rw [if_pos a7]; subst a7
    exact ⟨rfl, rfl, by simp [sndN, sdB], hs _ _ ⟨cf.1, by omega⟩ rfl⟩
  rw [if_neg a7]
  by_cases a8 : a = 8 ∨ a = 9
  · rw [if_pos a8]
    exact ⟨rfl, rfl, by rcases a8 with rfl | rfl <;> simp [sndN, sdB], hs _ _ han rfl⟩
  rw [if_neg a8]
  by_cases a10 : a = 10
  · rw [if_pos a10]; subst a10
    exact ⟨rfl, rfl, by simp [sndN, sdB], hs _ _ ⟨⟨by show (0 : Int) ≤ 5 ∧ (5 : Int) ≤ 255; decide, idr, fun x h => (by cases h)⟩, by simp⟩ rfl⟩
  rw [if_neg a10]
  by_cases a11 : a = 11
  · rw [if_pos a11]; subst a11
    exact ⟨rfl, rfl, by simp [sndN, sdB], hs _ _ ⟨⟨by show (0 : Int) ≤ 6 ∧ (6 : Int) ≤ 255; decide, hca.2.1, fun x h => (by cases h)⟩, by simp⟩ rfl⟩
  rw [if_neg a11]
  by_cases a12 : a = 12
  · rw [if_pos a12]; subst a12
    exact ⟨rfl, rfl, by simp [sndN, sdB], hs _ _ ⟨⟨by show (0 : Int) ≤ 7 ∧ (7 : Int) ≤ 255; decide, idr, rj.1⟩, rj.2⟩ rfl⟩
  rw [if_neg a12]
  refine ⟨rfl, rfl, ?_, id⟩
  have : sdB a = false := by unfold sdB; rw [decide_eq_false]; omega
  simp [this]
theorem acs_out (term : Bool) (ca an : Ctl) (hca : okC ca) (han : okP an) {k : Nat} : ∀ (l : List Int) (q : Ng × Ou), InvN k q.1 →
    InvN k (acsN term ca an l q).1 ∧ (acsN term ca an l q).2.up = (q.2.up || l.contains 1) ∧ (acsN term ca an l q).2.down = (q.2.down || l.contains 2) ∧ (acsN term ca an l q).2.pk.length = q.2.pk.length + l.countP sdB ∧
    ((∀ c ∈ q.2.pk, okP c) → ∀ c ∈ (acsN term ca an l q).2.pk, okP c)
  | [], q, h => ⟨h, by simp [acsN], by simp [acsN], by simp [acsN], id⟩
  | a :: l, q, h => by
    obtain ⟨a1, a2, a3, a4⟩ := act_out term ca an a q hca han
    obtain ⟨b0, b1, b2, b3, b4⟩ := acs_out term ca an hca han l (actN term ca an a q) (act_inv term ca an a q h)
    have e : acsN term ca an (a :: l) q = acsN term ca an l (actN term ca an a q) := rfl
    rw [e]
    refine ⟨b0, ?_, ?_, ?_, fun hq => b4 (a4 hq)⟩
    · rw [b1, a1, List.contains_cons, Bool.or_assoc, Bool.beq_comm]
    · rw [b2, a2, List.contains_cons, Bool.or_assoc, Bool.beq_comm]
    · rw [b3, a3, List.countP_cons]; omega
def cntB (s e : Int) : Bool := decide ((nxR s e).2.1.countP sdB ≤ 2)
theorem cnt_tab : (List.range 160).all (fun k => cntB ((k % 10 : Nat) : Int) ((k / 10 : Nat) : Int)) = true := by decide +kernel
theorem nx_cnt (s e : Int) : (nxR s e).2.1.countP sdB ≤ 2 := by
  by_cases h : 0 ≤ s ∧ s ≤ 9 ∧ 0 ≤ e ∧ e ≤ 15
  · have := List.all_eq_true.1 cnt_tab (e.toNat * 10 + s.toNat) (List.mem_range.2 (by omega))
    have e1 : (((e.toNat * 10 + s.toNat) % 10 : Nat) : Int) = s := by omega
    have e2 : (((e.toNat * 10 + s.toNat) / 10 : Nat) : Int) = e := by omega
    rw [e1, e2] at this
    exact of_decide_eq_true this
  · simp [nx_out h]
structure OutOk (n n2 : Ng) (o : Ou) : Prop where
  up : o.up = (decide (n.st ≠ 9) && decide (n2.st = 9))
  down : o.down = (decide (n.st = 9) && decide (n2.st ≠ 9))
  len : o.pk.length ≤ 2
  pk : ∀ c ∈ o.pk, okP c
theorem out_none (n : Ng) : OutOk n n noOu := by
  refine ⟨?_, ?_, Nat.zero_le _, fun c h => (by cases h)⟩
  · by_cases h : n.st = 9 <;> simp [h]
  · by_cases h : n.st = 9 <;> simp [h]
theorem act_st (term : Bool) (ca an : Ctl) (a : Int) (q : Ng × Ou) : (actN term ca an a q).1.st = q.1.st := by
  let P : Ng × Ou → Prop := fun z => z.1.st = q.1.st
  show P _
  unfold actN
  repeat' apply ite_P (P := P)
  all_goals rfl
theorem acs_st (term : Bool) (ca an : Ctl) : ∀ (l : List Int) (q : Ng × Ou), (acsN term ca an l q).1.st = q.1.st
  | [], q => rfl
  | a :: l, q => (acs_st term ca an l (actN term ca an a q)).trans (act_st term ca an a q)
theorem n_evOk (n : Ng) (e : Int) (ca an : Ctl) {k : Nat} (h : InvN k n) (hca : okC ca) (han : okP an) : InvN k (evN n e ca an).1 ∧ OutOk n (evN n e ca an).1 (evN n e ca an).2 := by
  unfold evN
  by_cases hb : (nxR n.st e).2.2 = 0
  · rw [if_pos hb]
    obtain ⟨g1, g2, _⟩ := nx_good hb
    have gc := nx_cnt n.st e
    obtain ⟨a0, a1, a2, a3, a4⟩ := acs_out ((nxR n.st e).2.1.contains 10) ca an hca han (nxR n.st e).2.1 ({ n with st := (nxR n.st e).1 }, noOu) (k := k) ⟨h.n, h.s, h.nk, h.left, h.ak⟩
    have as := acs_st ((nxR n.st e).2.1.contains 10) ca an (nxR n.st e).2.1 ({ n with st := (nxR n.st e).1 }, noOu)
    simp only at as
    have o : OutOk n (acsN ((nxR n.st e).2.1.contains 10) ca an (nxR n.st e).2.1 ({ n with st := (nxR n.st e).1 }, noOu)).1 (acsN ((nxR n.st e).2.1.contains 10) ca an (nxR n.st e).2.1 ({ n with st := (nxR n.st e).1 }, noOu)).2 := by
      refine ⟨?_, ?_, ?_, a4 (fun c hc => (by cases hc))⟩
      · rw [a1, as, g1, Bool.false_or, Bool.and_comm]
      · rw [a2, as, g2, Bool.false_or]
      · rw [a3]; simp only [List.length_nil]; omega
    generalize acsN ((nxR n.st e).2.1.contains 10) ca an (nxR n.st e).2.1 ({ n with st := (nxR n.st e).1 }, noOu) = q at *
    simp only
    split
    · exact ⟨a0, o⟩
    · exact ⟨⟨a0.n, a0.s, a0.nk, by simp, a0.ak⟩, ⟨o.up, o.down, o.len, o.pk⟩⟩
  · rw [if_neg hb]
    exact ⟨h, out_none n⟩
theorem noC_ok : okC noC := ⟨by decide, by decide, fun x h => (by cases h)⟩
theorem noC_p : okP noC := ⟨noC_ok, by decide⟩
theorem OutOk.of {n m n2 : Ng} {o : Ou} (h : OutOk m n2 o) (e : m.st = n.st) : OutOk n n2 o := ⟨by rw [← e]; exact h.up, by rw [← e]; exact h.down, h.len, h.pk⟩
theorem asked_ok (n : Ng) (c : Ctl) {k : Nat} (h : InvN k n) (hc : okC c) (hd : c.2.2.length ≤ 4000) : InvN (k + 1) (askdN n c).1 ∧ OutOk n (askdN n c).1 (askdN n c).2 := by
  unfold askdN
  by_cases hb : (optsR c).2 = 0
  · rw [if_neg (by simp [hb])]
    have hl := optsR_ok c hc.2.2
    have hcat := opts_cat c hc.2.2 hb hd
    generalize (optsR c).1 = l at *
    have jo := judN_ok n.rl l hl.1 hl.2
    have ac := ansN_cat n l hl.2 hcat
    have ao : okL (ansN n l).2 := by
      unfold ansN
      simp only
      split
      · exact keN_ok hl.1
      · exact jo.1
    have ak : 0 ≤ (ansN n l).1 ∧ (ansN n l).1 ≤ 255 := by
      have := jud_code n.rl l
      unfold ansN
      simp only
      split
      · simp
      · omega
    have cf := confR_ok (ansN n l).1 c.2.1 (ansN n l).2 ak hc.2.1 ao
    have cl := confR_le (ansN n l).1 c.2.1 (ansN n l).2
    simp only
    have inv1 : InvN (k + 1) (if (judN n.rl l).1 = 2 then { n with acked := (judN n.rl l).2 } else if (judN n.rl l).1 = 3 then { n with nk := n.nk + 1 } else n) := by
      have h3 := h.nk
      split
      · exact ⟨h.n, h.s, ⟨h3.1, by show n.nk ≤ _; omega⟩, h.left, jo⟩
      split
      · exact ⟨h.n, h.s, ⟨by show 0 ≤ n.nk + 1; omega, by show n.nk + 1 ≤ _; omega⟩, h.left, h.ak⟩
      · exact h.up (by omega)
    have st1 : (if (judN n.rl l).1 = 2 then { n with acked := (judN n.rl l).2 } else if (judN n.rl l).1 = 3 then { n with nk := n.nk + 1 } else n).st = n.st := by
      split
      · rfl
      split
      · rfl
      · rfl
    obtain ⟨r1, r2⟩ := n_evOk _ (if (judN n.rl l).1 = 2 then 6 else 7) c (confR (ansN n l).1 c.2.1 (ansN n l).2).1 inv1 hc ⟨cf.1, by omega⟩
    exact ⟨r1, r2.of st1⟩
  · rw [if_pos hb]
    exact ⟨h.up (by omega), out_none n⟩
theorem answered_ok (n : Ng) (c : Ctl) {k : Nat} (h : InvN k n) (hc : okC c) : InvN k (anwdN n c).1 ∧ OutOk n (anwdN n c).1 (anwdN n c).2 := by
  have hl := optsR_ok c hc.2.2
  unfold anwdN
  split
  · exact ⟨h, out_none n⟩
  simp only
  split
  · obtain ⟨r1, r2⟩ := n_evOk { n with nk := 0 } 8 c noC (k := k) ⟨h.n, h.s, ⟨by simp, by simp⟩, h.left, h.ak⟩ hc noC_p
    exact ⟨r1, r2.of rfl⟩
  split
  · obtain ⟨r1, r2⟩ := n_evOk { n with rl := nakN n.rl (optsR c).1 } 9 c noC (k := k) ⟨⟨h.n.1, nakN_ok h.n.2 hl.1⟩, h.s, h.nk, h.left, h.ak⟩ hc noC_p
    exact ⟨r1, r2.of rfl⟩
  split
  · obtain ⟨r1, r2⟩ := n_evOk { n with rl := rejN n.rl (optsR c).1 } (if rejB n.rl (optsR c).1 = true then 9 else 14) c noC (k := k) ⟨⟨h.n.1, rejN_ok h.n.2⟩, h.s, h.nk, h.left, h.ak⟩ hc noC_p
    exact ⟨r1, r2.of rfl⟩
  · exact ⟨h, out_none n⟩
theorem n_takeOk (n : Ng) (c : Ctl) {k : Nat} (h : InvN k n) (hc : okC c) (hd : c.2.2.length ≤ 4000) : InvN (k + 1) (takN n c).1 ∧ OutOk n (takN n c).1 (takN n c).2 := by
  unfold takN
  split
  · exact asked_ok n c h hc hd
  split
  · obtain ⟨r1, r2⟩ := answered_ok n c h hc
    exact ⟨r1.up (by omega), r2⟩
  · obtain ⟨r1, r2⟩ := n_evOk n (meaN n c) c noC h hc noC_p
    exact ⟨r1.up (by omega), r2⟩
theorem n_doOk (n : Ng) (e : Int) {k : Nat} (h : InvN k n) : InvN k (doN n e).1 ∧ OutOk n (doN n e).1 (doN n e).2 := by
  unfold doN
  split
  · exact ⟨h, out_none n⟩
  · exact n_evOk n e noC noC h noC_ok noC_p
theorem n_tickOk (n : Ng) {k : Nat} (h : InvN k n) : InvN k (ticN n).1 ∧ OutOk n (ticN n).1 (ticN n).2 := by
  unfold ticN
  have hL := h.left
  have h1 : InvN k { n with left := if 0 < n.left then n.left - 1 else n.left } := ⟨h.n, h.s, h.nk, by show 0 ≤ (if 0 < n.left then n.left - 1 else n.left) ∧ (if 0 < n.left then n.left - 1 else n.left) ≤ 3; split <;> omega, h.ak⟩
  simp only
  split
  · obtain ⟨r1, r2⟩ := n_evOk { n with left := if 0 < n.left then n.left - 1 else n.left } (if 0 < n.cnt then 4 else 5) noC noC h1 noC_ok noC_p
    exact ⟨r1, r2.of rfl⟩
  · exact ⟨h1, (out_none { n with left := if 0 < n.left then n.left - 1 else n.left }).of rfl⟩
end Go.Q
