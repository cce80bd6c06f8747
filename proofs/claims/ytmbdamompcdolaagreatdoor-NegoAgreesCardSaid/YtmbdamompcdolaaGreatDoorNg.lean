/- Two ends that talk: what each packet brings, as data. No condition. -/
import Derived.Test.YtmbdamompcdolaaGreatDoorNe
import Derived.Test.YtmbdamompcdolaaGreatDoorIq
set_option linter.all false
set_option maxRecDepth 100000
namespace Go.Q
abbrev okF (l : List Opt) : Prop := l.length ≤ 32 ∧ ∀ o ∈ l, o.2.length ≤ 253
theorem lay_f {l : List Opt} (h : okF l) : layR l = (cat l, 0) := by
  unfold layR
  rw [if_neg (by omega), if_neg]
  simp only [List.any_eq_true, not_exists, not_and, decide_eq_true_eq]
  intro o ho
  have := h.2 o ho
  omega
theorem conf_f {l : List Opt} (h : okF l) (k id : Int) (hk : 1 ≤ k ∧ k ≤ 4) : confR k id l = ((k, id, cat l), 0) := by
  unfold confR
  have hb : confB k = true := by unfold confB; simp; omega
  rw [if_neg (by simp [hb]), lay_f h]; rfl
theorem opts_f {l : List Opt} (h : okF l) (k id : Int) (hk : 1 ≤ k ∧ k ≤ 4) : optsR (k, id, cat l) = (l, 0) := by
  unfold optsR
  have hb : confB k = true := by unfold confB; simp; omega
  have := prs_lay l (by rw [lay_f h])
  rw [lay_f h] at this
  rw [if_neg (by simp [hb])]
  exact this
abbrev cf (k id : Int) (l : List Opt) : Ctl := (k, id, cat l)
theorem tk_good (n : Ng) (id : Int) (l : List Opt) (h : okF l) (j : judN n.rl l = (2, l)) : takN n (cf 1 id l) = evN { n with acked := l } 6 (cf 1 id l) (cf 2 id l) := by
  have e1 := opts_f h 1 id (by decide)
  have e2 := conf_f h 2 id (by decide)
  unfold takN askdN ansN
  simp only [cf] at *
  simp [e1, e2, j]
theorem tk_nakd (n : Ng) (id : Int) (l a : List Opt) (h : okF l) (ha : okF a) (j : judN n.rl l = (3, a)) (hk : n.nk + 1 ≤ 5) : takN n (cf 1 id l) = evN { n with nk := n.nk + 1 } 7 (cf 1 id l) (cf 3 id a) := by
  have e1 := opts_f h 1 id (by decide)
  have e2 := conf_f ha 3 id (by decide)
  unfold takN askdN ansN
  simp only [cf] at *
  have h5 : ¬ n.nk + 1 > 5 := by omega
  simp [e1, e2, j, h5]
theorem tk_rejd (n : Ng) (id : Int) (l a : List Opt) (h : okF l) (ha : okF a) (j : judN n.rl l = (4, a)) : takN n (cf 1 id l) = evN n 7 (cf 1 id l) (cf 4 id a) := by
  have e1 := opts_f h 1 id (by decide)
  have e2 := conf_f ha 4 id (by decide)
  unfold takN askdN ansN
  simp only [cf] at *
  simp [e1, e2, j]
theorem tk_ack (n : Ng) (l : List Opt) (h : okF l) (hs : n.sent = l) : takN n (cf 2 n.id l) = evN { n with nk := 0 } 8 (cf 2 n.id l) noC := by
  have e1 := opts_f h 2 n.id (by decide)
  unfold takN anwdN
  simp only [cf] at *
  simp [e1, hs]
theorem tk_nak (n : Ng) (l : List Opt) (h : okF l) (h0 : 0 < l.length) : takN n (cf 3 n.id l) = evN { n with rl := nakN n.rl l } 9 (cf 3 n.id l) noC := by
  have e1 := opts_f h 3 n.id (by decide)
  unfold takN anwdN
  simp only [cf] at *
  simp [e1, h0]
theorem tk_rej (n : Ng) (l : List Opt) (h : okF l) (h0 : 0 < l.length) (ha : amR l n.sent = true) (hr : rejB n.rl l = true) : takN n (cf 4 n.id l) = evN { n with rl := rejN n.rl l } 9 (cf 4 n.id l) noC := by
  have e1 := opts_f h 4 n.id (by decide)
  unfold takN anwdN
  simp only [cf] at *
  simp [e1, h0, ha, hr]
abbrev ot (l : List Ctl) (u : Bool) : Ou := ⟨l, u, false, false, false⟩
section
variable (c l id nk : Int) (s ak : List Opt) (r : Rl) (ca an : Ctl)
theorem e_open : doN (newN r) 2 = (⟨1, 0, 0, 0, [], r, [], 0⟩, ⟨[], false, false, true, false⟩) := by kernel_rfl
theorem e_up : doN ⟨1, 0, 0, 0, [], r, [], 0⟩ 0 = (⟨6, 9, 3, 1, askN r, r, [], 0⟩, ot [(confR 1 1 (askN r)).1] false) := by kernel_rfl
theorem e_good6 : evN ⟨6, c, l, id, s, r, ak, nk⟩ 6 ca an = (⟨8, c, l, id, s, r, ak, nk⟩, ot [an] false) := by kernel_rfl
theorem e_bad6 : evN ⟨6, c, l, id, s, r, ak, nk⟩ 7 ca an = (⟨6, c, l, id, s, r, ak, nk⟩, ot [an] false) := by kernel_rfl
theorem e_good7 : evN ⟨7, c, l, id, s, r, ak, nk⟩ 6 ca an = (⟨9, c, 0, id, s, r, ak, nk⟩, ot [an] true) := by kernel_rfl
theorem e_bad7 : evN ⟨7, c, l, id, s, r, ak, nk⟩ 7 ca an = (⟨7, c, l, id, s, r, ak, nk⟩, ot [an] false) := by kernel_rfl
theorem e_ack8 : evN ⟨8, c, l, id, s, r, ak, nk⟩ 8 ca an = (⟨9, 10, 0, id, s, r, ak, nk⟩, ot [] true) := by kernel_rfl
theorem e_ack6 : evN ⟨6, c, l, id, s, r, ak, nk⟩ 8 ca an = (⟨7, 10, l, id, s, r, ak, nk⟩, ot [] false) := by kernel_rfl
theorem e_nak8 : evN ⟨8, c, l, id, s, r, ak, nk⟩ 9 ca an = (⟨8, 9, 3, (id + 1) % 256, askN r, r, ak, nk⟩, ot [(confR 1 ((id + 1) % 256) (askN r)).1] false) := by kernel_rfl
end
theorem askW_f (w : Want) : okF (optW w) := by
  have h := (optW_ok w).2
  refine ⟨by omega, fun o ho => ?_⟩
  unfold optW at ho
  simp only [List.mem_append] at ho
  rcases ho with ho | ho | ho <;> split at ho <;> first | (cases ho; done) | (simp only [List.mem_singleton] at ho; subst ho; first | (simp [big_len]; done) | (show chapL.length ≤ 253; decide))
theorem optsI_f (s : Sd) : okF (optsI s) := by
  unfold optsI
  refine ⟨by split <;> simp, fun o ho => ?_⟩
  simp only [List.mem_cons] at ho
  rcases ho with rfl | ho
  · simp [big_len]
  · split at ho
    · simp only [List.mem_singleton] at ho; subst ho; simp [big_len]
    · cases ho
theorem jR_pv (l : List Opt) (pv : Bool) (own fresh : Int) (h : ∀ o ∈ l, o.1 ≠ 3) : ∀ i, i ≤ l.length → jR l pv own fresh i = jR l true own fresh i
  | 0, _ => rfl
  | i + 1, hi => by
    rw [jR_succ (by omega), jR_succ (by omega), jR_pv l pv own fresh h i (by omega)]
    unfold jstep
    have := h l[i] (List.getElem_mem _)
    simp [this]
theorem jud_lcp (r : Rl) (w : Want) (hi : r.ip = false) (hw : okW w) (hp : r.pv = true ∨ w.2.2 = false) (h1 : w.1 = 0 ∨ 128 ≤ w.1) (h2 : w.2.1 = 0 ∨ w.2.1 ≠ r.want.2.1) : judN r (optW w) = (2, optW w) := by
  unfold judN
  rw [if_neg (by simp [hi])]
  unfold judR
  generalize freN (IntKind.u32.wrap (r.want.2.1 + (ofR (optW w)).2.1)) = f
  have e : jR (optW w) r.pv r.want.2.1 f (optW w).length = jR (optW w) true r.want.2.1 f (optW w).length := by
    rcases hp with hp | hp
    · rw [hp]
    · refine jR_pv _ _ _ _ (fun o ho => ?_) _ (Nat.le_refl _)
      unfold optW at ho
      simp only [List.mem_append, hp, Bool.false_eq_true, if_false, List.not_mem_nil, false_or] at ho
      rcases ho with ho | ho <;> split at ho <;> first | (cases ho; done) | (simp only [List.mem_singleton] at ho; subst ho; simp)
  have n : nakW w r.want.2.1 f = [] := by
    unfold nakW
    rw [if_neg (by omega), if_neg (by omega)]; rfl
  rw [e, w_jud w _ _ hw, n]
  simp
structure Tk where
  a : Ng
  b : Ng
  tb : List Ctl
  ta : List Ctl
def feed (n : Ng) : List Ctl → Ng × List Ctl
  | [] => (n, [])
  | c :: l => ((feed (takN n c).1 l).1, (takN n c).2.pk ++ (feed (takN n c).1 l).2)
theorem feed0 (n : Ng) : feed n [] = (n, []) := rfl
theorem feed1 (n : Ng) (c : Ctl) : feed n [c] = ((takN n c).1, (takN n c).2.pk) := by simp [feed]
def tkStep (t : Tk) : Tk := ⟨(feed t.a t.ta).1, (feed t.b t.tb).1, (feed t.a t.ta).2, (feed t.b t.tb).2⟩
def tkR (p q : Rl) : Nat → Tk
  | 0 => ⟨⟨6, 9, 3, 1, askN p, p, [], 0⟩, ⟨6, 9, 3, 1, askN q, q, [], 0⟩, [cf 1 1 (askN p)], [cf 1 1 (askN q)]⟩
  | i + 1 => tkStep (tkR p q i)
theorem tk_end (p q : Rl) {k : Nat} (h : (tkR p q k).tb = [] ∧ (tkR p q k).ta = []) : ∀ m, tkR p q (k + m) = tkR p q k
  | 0 => rfl
  | m + 1 => by
    have ih := tk_end p q h m
    rw [← Nat.add_assoc, tkR, ih]
    unfold tkStep
    rw [h.1, h.2]
    generalize tkR p q k = t at *
    obtain ⟨a, b, tb, ta⟩ := t
    simp only at h
    rw [h.1, h.2]; rfl
theorem lcp_2 (p q : Rl) (hp : p.ip = false) (hq : q.ip = false) (wp : okW p.want) (wq : okW q.want) (pv : p.pv = true) (hpp : p.want.2.2 = false) (h1 : p.want.1 = 0 ∨ 128 ≤ p.want.1) (h2 : q.want.1 = 0 ∨ 128 ≤ q.want.1) (h3 : p.want.2.1 ≠ q.want.2.1 ∨ p.want.2.1 = 0 ∧ q.want.2.1 = 0) :
    tkR p q 2 = ⟨⟨9, 10, 0, 1, askN p, p, askN q, 0⟩, ⟨9, 10, 0, 1, askN q, q, askN p, 0⟩, [], []⟩ := by
  have ep : askN p = optW p.want := by unfold askN; rw [if_neg (by simp [hp])]
  have eq : askN q = optW q.want := by unfold askN; rw [if_neg (by simp [hq])]
  have jb : judN q (askN p) = (2, askN p) := by rw [ep]; exact jud_lcp q p.want hq wp (.inr hpp) h1 (by omega)
  have ja : judN p (askN q) = (2, askN q) := by rw [eq]; exact jud_lcp p q.want hp wq (.inl pv) h2 (by omega)
  have fp : okF (askN p) := by rw [ep]; exact askW_f _
  have fq : okF (askN q) := by rw [eq]; exact askW_f _
  have s1 : tkR p q 1 = ⟨⟨8, 9, 3, 1, askN p, p, askN q, 0⟩, ⟨8, 9, 3, 1, askN q, q, askN p, 0⟩, [cf 2 1 (askN q)], [cf 2 1 (askN p)]⟩ := by
    rw [show tkR p q 1 = tkStep (tkR p q 0) from rfl]
    unfold tkStep tkR
    simp only [feed0, feed1]
    rw [tk_good _ 1 _ fq ja, tk_good _ 1 _ fp jb, e_good6, e_good6]
  rw [show tkR p q 2 = tkStep (tkR p q 1) from rfl, s1]
  unfold tkStep
  simp only [feed0, feed1]
  have a1 := tk_ack ⟨8, 9, 3, 1, askN p, p, askN q, 0⟩ (askN p) fp rfl
  have b1 := tk_ack ⟨8, 9, 3, 1, askN q, q, askN p, 0⟩ (askN q) fq rfl
  simp only at a1 b1
  rw [a1, b1, e_ack8, e_ack8]
def msI (S C : Sd) : Nat := if C.asks = true ∧ S.dns = 0 then 2 else if C.own = S.give ∧ (C.asks = true → C.dns = S.dns) then 0 else 1
theorem ag_nak {S C : Sd} {l : List Opt} (h : judI S (optsI C) = (3, l)) : nakedI C l = agStep S C := by unfold agStep; rw [h]; rfl
theorem ag_rej {S C : Sd} {l : List Opt} (h : judI S (optsI C) = (4, l)) : rejI C l = agStep S C := by unfold agStep; rw [h]; rfl
theorem okF1 (k a : Int) : okF [(k, big 4 a)] := ⟨by simp, fun o ho => by simp only [List.mem_singleton] at ho; subst ho; simp [big_len]⟩
theorem okF2 (k a m b : Int) : okF [(k, big 4 a), (m, big 4 b)] := ⟨by simp, fun o ho => by
  simp only [List.mem_cons, List.not_mem_nil, or_false] at ho
  rcases ho with rfl | rfl <;> simp [big_len]⟩
theorem cor (S C : Sd) (hS : okSd S) (hC : okSd C) (s1 : S.srv = true) (c1 : C.srv = false) (h4 : S.give ≠ 0) :
    (judI S (optsI C) = (2, optsI C) ∧ C.own = S.give) ∨
    (∃ k l, judI S (optsI C) = (k, l) ∧ okF l ∧ 0 < l.length ∧ (k = 3 ∨ k = 4 ∧ amR l (optsI C) = true ∧ (fdR l 3).2 = false) ∧ (agStep S C).srv = false ∧ msI S (agStep S C) < msI S C) := by
  obtain ⟨ss, so, sg, sd, sa⟩ := S
  obtain ⟨cs, o, g, d, a⟩ := C
  simp only at s1 c1 h4
  subst s1 c1
  obtain ⟨hso, hsg, hsd⟩ := hS
  obtain ⟨ho, hg, hd⟩ := hC
  simp only at hso hsg hsd ho hg hd
  cases a with
  | false =>
    have st := stF (so := so) (sd := sd) (o := o) (g := g) (d := d) (sa := sa) hsg ho h4
    have j := jud1 (SS so sg sd sa) (3, big 4 o)
    rw [one3 ho] at j
    by_cases e : o = sg
    · left
      rw [opF, j]
      simp [e]
    · right
      rw [if_pos e] at j
      refine ⟨3, [(3, big 4 sg)], by rw [opF, j]; simp, okF1 _ _, by simp, .inl rfl, by rw [st], ?_⟩
      rw [st]
      simp [msI, e]
  | true =>
    by_cases h9 : sd = 0
    · subst h9
      right
      have st := stZ (so := so) (sg := sg) (o := o) (g := g) (d := d) (sa := sa) ho hd
      have j := jud2 (SS so sg 0 sa) (3, big 4 o) (129, big 4 d) (by simp)
      rw [one3 ho, one9 hd] at j
      have jj : judI (SS so sg 0 sa) [(3, big 4 o), (129, big 4 d)] = (4, [(129, big 4 d)]) := by
        rw [j]
        by_cases e : o = sg <;> simp [e]
      refine ⟨4, [(129, big 4 d)], by rw [opT, jj], okF1 _ _, by simp, .inr ⟨rfl, ?_, ?_⟩, by rw [st], ?_⟩
      · rw [opT]
        unfold amR
        rw [if_neg (by simp)]
        unfold amR
        rw [if_pos rfl]
        rfl
      · exact fd_one (by simp)
      · rw [st]
        simp only [msI, Bool.false_eq_true, false_and, if_false, and_self, if_true, false_implies, and_true]
        split <;> omega
    · have st := stT (so := so) (o := o) (g := g) (d := d) (sa := sa) hsg hsd ho hd h4 h9
      have j := jud2 (SS so sg sd sa) (3, big 4 o) (129, big 4 d) (by simp)
      rw [one3 ho, one9 hd, if_neg h9] at j
      by_cases e : o = sg
      · by_cases e9 : d = sd
        · left
          rw [opT, j]
          simp [e, e9]
        · right
          have jj : judI (SS so sg sd sa) [(3, big 4 o), (129, big 4 d)] = (3, [(129, big 4 sd)]) := by rw [j]; simp [e, e9]
          refine ⟨3, _, by rw [opT, jj], okF1 _ _, by simp, .inl rfl, by rw [st], ?_⟩
          rw [st]
          simp [msI, h9, e9]
      · right
        by_cases e9 : d = sd
        · have jj : judI (SS so sg sd sa) [(3, big 4 o), (129, big 4 d)] = (3, [(3, big 4 sg)]) := by rw [j]; simp [e, e9]
          refine ⟨3, _, by rw [opT, jj], okF1 _ _, by simp, .inl rfl, by rw [st], ?_⟩
          rw [st]
          simp [msI, h9, e]
        · have jj : judI (SS so sg sd sa) [(3, big 4 o), (129, big 4 d)] = (3, [(3, big 4 sg), (129, big 4 sd)]) := by rw [j]; simp [e, e9]
          refine ⟨3, _, by rw [opT, jj], okF2 _ _ _ _, by simp, .inl rfl, by rw [st], ?_⟩
          rw [st]
          simp [msI, h9, e]
theorem ms_le (S C : Sd) : msI S C ≤ 2 := by unfold msI; split <;> (try split) <;> omega
section
variable (p q : Rl)
abbrev pr (p : Rl) (C : Sd) : Rl := { p with side := C }
def FinI (S : Sd) (p q : Rl) (t : Tk) : Prop := ∃ C i nk, okSd C ∧ C.own = S.give ∧ t = ⟨⟨9, 10, 0, i, optsI C, pr p C, optsI S, 0⟩, ⟨9, 10, 0, 1, optsI S, q, optsI C, nk⟩, [], []⟩
variable (hp : p.ip = true) (hq : q.ip = true) (hS : okSd q.side) (s1 : q.side.srv = true) (h3 : q.side.own ≠ 0) (h4 : q.side.give ≠ 0)
include hp in
theorem ask_p (C : Sd) : askN (pr p C) = optsI C := by unfold askN; rw [if_pos hp]
include hq in
theorem ask_q : askN q = optsI q.side := by unfold askN; rw [if_pos hq]
include hp hS s1 h3 in
theorem jud_p (C : Sd) (hC : okSd C) (c1 : C.srv = false) : judN (pr p C) (optsI q.side) = (2, optsI q.side) := by
  unfold judN
  rw [if_pos hp]
  obtain ⟨qip, qw, qpv, S⟩ := q
  obtain ⟨ss, so, sg, sd, sa⟩ := S
  obtain ⟨cs, o, g, d, a⟩ := C
  simp only at s1 c1 h3 hS
  subst s1 c1
  have e : optsI ⟨true, so, sg, sd, sa⟩ = [(3, big 4 so)] := rfl
  simp only
  rw [e, jud1]
  unfold oneI
  rw [ag_addr hS.1]
  simp [h3]
include hp hq hS s1 h4 in
theorem ip_from (t : Nat → Tk) (ht : ∀ i, t (i + 1) = tkStep (t i)) : ∀ (m : Nat) (C : Sd) (k : Nat) (i : Int) (nk : Int), msI q.side C ≤ m → okSd C → C.srv = false → 0 ≤ nk → nk + m ≤ 5 → 0 ≤ i → i + m ≤ 200 →
    t k = ⟨⟨8, 9, 3, i, optsI C, pr p C, optsI q.side, 0⟩, ⟨7, 10, 3, 1, optsI q.side, q, [], nk⟩, [cf 1 i (optsI C)], []⟩ → FinI q.side p q (t (k + 2 + 2 * m)) ∨ ∃ j, j ≤ m ∧ FinI q.side p q (t (k + 2 + 2 * j)) := by
  intro m
  induction m with
  | zero =>
    intro C k i nk hm hC c1 n0 n5 i0 i2 e
    rcases cor q.side C hS hC s1 c1 h4 with ⟨j, g⟩ | ⟨_, _, _, _, _, _, _, h⟩
    · left
      have jq : judN q (optsI C) = (2, optsI C) := by unfold judN; rw [if_pos hq]; exact j
      have g1 := tk_good ⟨7, 10, 3, 1, optsI q.side, q, [], nk⟩ i (optsI C) (optsI_f C) jq
      have e1 : t (k + 1) = ⟨⟨8, 9, 3, i, optsI C, pr p C, optsI q.side, 0⟩, ⟨9, 10, 0, 1, optsI q.side, q, optsI C, nk⟩, [], [cf 2 i (optsI C)]⟩ := by
        rw [ht, e]; unfold tkStep; simp only [feed0, feed1]; rw [g1, e_good7]
      have a1 := tk_ack ⟨8, 9, 3, i, optsI C, pr p C, optsI q.side, 0⟩ (optsI C) (optsI_f C) rfl
      simp only at a1
      refine ⟨C, i, nk, hC, g, ?_⟩
      show t (k + 1 + 1) = _
      rw [ht, e1]; unfold tkStep; simp only [feed0, feed1]; rw [a1, e_ack8]
    · omega
  | succ m ih =>
    intro C k i nk hm hC c1 n0 n5 i0 i2 e
    rcases cor q.side C hS hC s1 c1 h4 with ⟨j, g⟩ | ⟨cd, l, j, fl, l0, hk, sv, hms⟩
    · right
      refine ⟨0, by omega, ?_⟩
      have jq : judN q (optsI C) = (2, optsI C) := by unfold judN; rw [if_pos hq]; exact j
      have g1 := tk_good ⟨7, 10, 3, 1, optsI q.side, q, [], nk⟩ i (optsI C) (optsI_f C) jq
      have e1 : t (k + 1) = ⟨⟨8, 9, 3, i, optsI C, pr p C, optsI q.side, 0⟩, ⟨9, 10, 0, 1, optsI q.side, q, optsI C, nk⟩, [], [cf 2 i (optsI C)]⟩ := by
        rw [ht, e]; unfold tkStep; simp only [feed0, feed1]; rw [g1, e_good7]
      have a1 := tk_ack ⟨8, 9, 3, i, optsI C, pr p C, optsI q.side, 0⟩ (optsI C) (optsI_f C) rfl
      simp only at a1
      refine ⟨C, i, nk, hC, g, ?_⟩
      show t (k + 1 + 1) = _
      rw [ht, e1]; unfold tkStep; simp only [feed0, feed1]; rw [a1, e_ack8]
    · have jq : judN q (optsI C) = (cd, l) := by unfold judN; rw [if_pos hq]; exact j
      have im : (i + 1) % 256 = i + 1 := by omega
      have ak := ask_p p hp (agStep q.side C)
      have cfn := conf_f (optsI_f (agStep q.side C)) 1 (i + 1) (by decide)
      have hC' := ag_ok (s := q.side) hC
      have e2 : ∃ nk', nk' ≤ nk + 1 ∧ 0 ≤ nk' ∧ t (k + 2) = ⟨⟨8, 9, 3, i + 1, optsI (agStep q.side C), pr p (agStep q.side C), optsI q.side, 0⟩, ⟨7, 10, 3, 1, optsI q.side, q, [], nk'⟩, [cf 1 (i + 1) (optsI (agStep q.side C))], []⟩ := by
        rcases hk with rfl | ⟨rfl, am, fd⟩
        · refine ⟨nk + 1, by omega, by omega, ?_⟩
          have g1 := tk_nakd ⟨7, 10, 3, 1, optsI q.side, q, [], nk⟩ i (optsI C) l (optsI_f C) fl jq (by simp only; omega)
          have e1 : t (k + 1) = ⟨⟨8, 9, 3, i, optsI C, pr p C, optsI q.side, 0⟩, ⟨7, 10, 3, 1, optsI q.side, q, [], nk + 1⟩, [], [cf 3 i l]⟩ := by
            rw [ht, e]; unfold tkStep; simp only [feed0, feed1]; rw [g1, e_bad7]
          have a1 := tk_nak ⟨8, 9, 3, i, optsI C, pr p C, optsI q.side, 0⟩ l fl l0
          have nn : nakN (pr p C) l = pr p (agStep q.side C) := by unfold nakN; rw [if_pos hp, ag_nak j]
          simp only [nn] at a1
          show t (k + 1 + 1) = _
          rw [ht, e1]; unfold tkStep; simp only [feed0, feed1]; rw [a1, e_nak8, ak, im, cfn]
        · refine ⟨nk, by omega, by omega, ?_⟩
          have g1 := tk_rejd ⟨7, 10, 3, 1, optsI q.side, q, [], nk⟩ i (optsI C) l (optsI_f C) fl jq
          have e1 : t (k + 1) = ⟨⟨8, 9, 3, i, optsI C, pr p C, optsI q.side, 0⟩, ⟨7, 10, 3, 1, optsI q.side, q, [], nk⟩, [], [cf 4 i l]⟩ := by
            rw [ht, e]; unfold tkStep; simp only [feed0, feed1]; rw [g1, e_bad7]
          have a1 := tk_rej ⟨8, 9, 3, i, optsI C, pr p C, optsI q.side, 0⟩ l fl l0 am (by unfold rejB; rw [fd]; rfl)
          have nn : rejN (pr p C) l = pr p (agStep q.side C) := by unfold rejN; rw [if_pos hp, ag_rej j]
          simp only [nn] at a1
          show t (k + 1 + 1) = _
          rw [ht, e1]; unfold tkStep; simp only [feed0, feed1]; rw [a1, e_nak8, ak, im, cfn]
      obtain ⟨nk', n1, n2, e2⟩ := e2
      rcases ih (agStep q.side C) (k + 2) (i + 1) nk' (by omega) hC' sv n2 (by omega) (by omega) (by omega) e2 with h | ⟨j, hj, h⟩
      · left
        rw [show k + 2 + 2 * (m + 1) = k + 2 + 2 + 2 * m by omega]; exact h
      · right
        exact ⟨j + 1, by omega, by rw [show k + 2 + 2 * (j + 1) = k + 2 + 2 + 2 * j by omega]; exact h⟩
include hp hq hS s1 h3 h4 in
theorem ip_all (hC : okSd p.side) (c1 : p.side.srv = false) : ∃ k, k ≤ 8 ∧ FinI q.side p q (tkR p q k) := by
  have pe : pr p p.side = p := rfl
  have ap : askN p = optsI p.side := ask_p p hp p.side
  have aq := ask_q q hq
  have jp := jud_p p q hp hS s1 h3 p.side hC c1
  rw [pe] at jp
  have ga := tk_good ⟨6, 9, 3, 1, optsI p.side, p, [], 0⟩ 1 (optsI q.side) (optsI_f _) jp
  have e0 : tkR p q 0 = ⟨⟨6, 9, 3, 1, optsI p.side, p, [], 0⟩, ⟨6, 9, 3, 1, optsI q.side, q, [], 0⟩, [cf 1 1 (optsI p.side)], [cf 1 1 (optsI q.side)]⟩ := by
    unfold tkR; rw [ap, aq]
  have a2 := tk_ack ⟨8, 9, 3, 1, optsI p.side, p, optsI q.side, 0⟩ (optsI p.side) (optsI_f _) rfl
  simp only at a2
  rcases cor q.side p.side hS hC s1 c1 h4 with ⟨j, g⟩ | ⟨cd, l, j, fl, l0, hk, sv, hms⟩
  · refine ⟨2, by omega, p.side, 1, 0, hC, g, ?_⟩
    have jq : judN q (optsI p.side) = (2, optsI p.side) := by unfold judN; rw [if_pos hq]; exact j
    have g1 := tk_good ⟨6, 9, 3, 1, optsI q.side, q, [], 0⟩ 1 (optsI p.side) (optsI_f _) jq
    have e1 : tkR p q 1 = ⟨⟨8, 9, 3, 1, optsI p.side, p, optsI q.side, 0⟩, ⟨8, 9, 3, 1, optsI q.side, q, optsI p.side, 0⟩, [cf 2 1 (optsI q.side)], [cf 2 1 (optsI p.side)]⟩ := by
      rw [show tkR p q 1 = tkStep (tkR p q 0) from rfl, e0]; unfold tkStep; simp only [feed0, feed1]; rw [g1, ga, e_good6, e_good6]
    have b2 := tk_ack ⟨8, 9, 3, 1, optsI q.side, q, optsI p.side, 0⟩ (optsI q.side) (optsI_f _) rfl
    simp only at b2
    rw [show tkR p q 2 = tkStep (tkR p q 1) from rfl, e1]; unfold tkStep; simp only [feed0, feed1]; rw [a2, b2, e_ack8, e_ack8]
  · have jq : judN q (optsI p.side) = (cd, l) := by unfold judN; rw [if_pos hq]; exact j
    have ak := ask_p p hp (agStep q.side p.side)
    have cfn := conf_f (optsI_f (agStep q.side p.side)) 1 2 (by decide)
    have hC' := ag_ok (s := q.side) hC
    have b2 := fun nk => tk_ack ⟨6, 9, 3, 1, optsI q.side, q, [], nk⟩ (optsI q.side) (optsI_f _) rfl
    simp only at b2
    have e2 : tkR p q 2 = ⟨⟨8, 9, 3, 2, optsI (agStep q.side p.side), pr p (agStep q.side p.side), optsI q.side, 0⟩, ⟨7, 10, 3, 1, optsI q.side, q, [], 0⟩, [cf 1 2 (optsI (agStep q.side p.side))], []⟩ := by
      have i2 : ((1 : Int) + 1) % 256 = 2 := by decide
      rcases hk with rfl | ⟨rfl, am, fd⟩
      · have g1 := tk_nakd ⟨6, 9, 3, 1, optsI q.side, q, [], 0⟩ 1 (optsI p.side) l (optsI_f _) fl jq (by simp)
        have e1 : tkR p q 1 = ⟨⟨8, 9, 3, 1, optsI p.side, p, optsI q.side, 0⟩, ⟨6, 9, 3, 1, optsI q.side, q, [], 0 + 1⟩, [cf 2 1 (optsI q.side)], [cf 3 1 l]⟩ := by
          rw [show tkR p q 1 = tkStep (tkR p q 0) from rfl, e0]; unfold tkStep; simp only [feed0, feed1]; rw [g1, ga, e_good6, e_bad6]
        have a1 := tk_nak ⟨8, 9, 3, 1, optsI p.side, p, optsI q.side, 0⟩ l fl l0
        have nn : nakN p l = pr p (agStep q.side p.side) := by unfold nakN; rw [if_pos hp, ag_nak j]
        simp only [nn] at a1
        rw [show tkR p q 2 = tkStep (tkR p q 1) from rfl, e1]; unfold tkStep; simp only [feed0, feed1]; rw [a1, b2, e_ack6, e_nak8, ak, i2, cfn]
      · have g1 := tk_rejd ⟨6, 9, 3, 1, optsI q.side, q, [], 0⟩ 1 (optsI p.side) l (optsI_f _) fl jq
        have e1 : tkR p q 1 = ⟨⟨8, 9, 3, 1, optsI p.side, p, optsI q.side, 0⟩, ⟨6, 9, 3, 1, optsI q.side, q, [], 0⟩, [cf 2 1 (optsI q.side)], [cf 4 1 l]⟩ := by
          rw [show tkR p q 1 = tkStep (tkR p q 0) from rfl, e0]; unfold tkStep; simp only [feed0, feed1]; rw [g1, ga, e_good6, e_bad6]
        have a1 := tk_rej ⟨8, 9, 3, 1, optsI p.side, p, optsI q.side, 0⟩ l fl l0 am (by unfold rejB; rw [fd]; rfl)
        have nn : rejN p l = pr p (agStep q.side p.side) := by unfold rejN; rw [if_pos hp, ag_rej j]
        simp only [nn] at a1
        rw [show tkR p q 2 = tkStep (tkR p q 1) from rfl, e1]; unfold tkStep; simp only [feed0, feed1]; rw [a1, b2, e_ack6, e_nak8, ak, i2, cfn]
    rcases ip_from p q hp hq hS s1 h4 (tkR p q) (fun i => rfl) 2 (agStep q.side p.side) 2 2 0 (ms_le _ _) hC' sv (by omega) (by omega) (by omega) (by omega) e2 with h | ⟨j, hj, h⟩
    · exact ⟨2 + 2 + 2 * 2, by omega, h⟩
    · exact ⟨2 + 2 + 2 * j, by omega, h⟩
end
theorem feed_app (l : List Ctl) (c : Ctl) : ∀ (n : Ng), feed n (l ++ [c]) = ((takN (feed n l).1 c).1, (feed n l).2 ++ (takN (feed n l).1 c).2.pk) := by
  induction l with
  | nil => intro n; simp [feed]
  | cons x l ih => intro n; simp only [List.cons_append, feed, ih, List.append_assoc]
theorem feed_succ {n : Ng} {l : List Ctl} {i : Nat} (h : i < l.length) : feed n (l.take (i + 1)) = ((takN (feed n (l.take i)).1 l[i]).1, (feed n (l.take i)).2 ++ (takN (feed n (l.take i)).1 l[i]).2.pk) := by
  rw [take_succ h, feed_app]
theorem feed_inv : ∀ (l : List Ctl) (n : Ng) (k : Nat), InvN k n → (∀ c ∈ l, okP c) → InvN (k + l.length) (feed n l).1 ∧ (∀ c ∈ (feed n l).2, okP c) ∧ (feed n l).2.length ≤ 2 * l.length
  | [], n, k, h, _ => ⟨h, fun c hc => (by cases hc), Nat.zero_le _⟩
  | c :: l, n, k, h, hc => by
    obtain ⟨t1, t2⟩ := n_takeOk n c h (hc c (by simp)).1 (hc c (by simp)).2
    obtain ⟨f1, f2, f3⟩ := feed_inv l (takN n c).1 (k + 1) t1 fun x hx => hc x (by simp [hx])
    refine ⟨f1.up (by simp only [List.length_cons]; omega), fun x hx => ?_, ?_⟩
    · rcases List.mem_append.1 hx with hx | hx
      · exact t2.pk x hx
      · exact f2 x hx
    · have := t2.len
      simp only [feed, List.length_append, List.length_cons]
      omega
structure InvT (k : Nat) (t : Tk) : Prop where
  a : InvN k t.a
  b : InvN k t.b
  tb : ∀ c ∈ t.tb, okP c
  ta : ∀ c ∈ t.ta, okP c
  lb : t.tb.length ≤ k
  la : t.ta.length ≤ k
theorem invT (p q : Rl) (hp : okR p) (hq : okR q) : ∀ i, InvT (2 ^ i) (tkR p q i)
  | 0 => by
    have ok : ∀ r : Rl, okR r → okP (cf 1 1 (askN r)) ∧ InvN 1 ⟨6, 9, 3, 1, askN r, r, [], 0⟩ := fun r hr => by
      have f : okF (askN r) := by
        unfold askN
        split
        · exact optsI_f _
        · exact askW_f _
      have c := confR_ok 1 1 (askN r) (by decide) (by decide) askN_ok.1
      rw [conf_f f 1 1 (by decide)] at c
      have := askN_cat r
      exact ⟨⟨c.1, by show (cat (askN r)).length ≤ 4000; omega⟩, ⟨⟨by show In 9; constructor <;> decide, hr⟩, askN_ok, ⟨by simp, by simp⟩, ⟨by simp, by simp⟩, ⟨fun o ho => (by cases ho), Nat.zero_le _⟩⟩⟩
    refine ⟨(ok p hp).2, (ok q hq).2, ?_, ?_, by simp [tkR], by simp [tkR]⟩
    · intro c hc; simp only [tkR, List.mem_singleton] at hc; subst hc; exact (ok p hp).1
    · intro c hc; simp only [tkR, List.mem_singleton] at hc; subst hc; exact (ok q hq).1
  | i + 1 => by
    have ih := invT p q hp hq i
    obtain ⟨b1, b2, b3⟩ := feed_inv _ _ _ ih.b ih.tb
    obtain ⟨a1, a2, a3⟩ := feed_inv _ _ _ ih.a ih.ta
    have e : 2 ^ (i + 1) = 2 * 2 ^ i := by rw [Nat.pow_succ]; omega
    rw [show tkR p q (i + 1) = tkStep (tkR p q i) from rfl]
    have := ih.la
    have := ih.lb
    exact ⟨a1.up (by omega), b1.up (by omega), a2, b2, by show (feed _ _).2.length ≤ _; omega, by show (feed _ _).2.length ≤ _; omega⟩
end Go.Q
