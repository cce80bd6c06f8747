/- A client and a server agree: the law IpcpoAgrees. No condition. -/
import Derived.Test.YtmbdamompcdolaaGreatDoorIa
set_option linter.all false
set_option maxRecDepth 100000
namespace Go.Q
open SOp SCode
attribute [local congr] bind_c map_c
def agStep (s c : Sd) : Sd := if (judI s (optsI c)).1 = 4 then rejI c (judI s (optsI c)).2 else if (judI s (optsI c)).1 = 3 then nakedI c (judI s (optsI c)).2 else c
def agC (s c : Sd) : Nat → Sd
  | 0 => c
  | i + 1 => agStep s (agC s c i)
theorem ag_ok {s c : Sd} (hc : okSd c) : okSd (agStep s c) := by
  obtain ⟨k1, k2⟩ := optsI_ok c
  obtain ⟨m1, m2⟩ := judI_ok s _ k1 k2
  unfold agStep
  split
  · unfold rejI; split <;> exact hc
  split
  · unfold nakedI
    split
    · exact hc
    · refine ⟨told_rng _ _ _ m1 hc.1, hc.2.1, ?_⟩
      simp only
      split
      · exact told_rng _ _ _ m1 hc.2.2
      · exact hc.2.2
  · exact hc
theorem agC_ok {s c : Sd} (hc : okSd c) : ∀ i, okSd (agC s c i)
  | 0 => hc
  | i + 1 => ag_ok (agC_ok hc i)
theorem ag_addr {k a : Int} (h : u32ok a) : addrI (k, big 4 a) = (a, true) := by
  unfold addrI
  rw [if_pos (big_len 4 a)]
  have e4 : (256 : Int) ^ 4 = 4294967296 := by decide
  rw [num_big 4 a h.1 (by rw [e4]; omega)]
theorem fd_nil (k : Int) : (fdR [] k).2 = false := rfl
theorem fd_one {o : Opt} {k : Int} (h : o.1 ≠ k) : (fdR [o] k).2 = false := by
  unfold fdR
  simp [h]
theorem jud1 (s : Sd) (o : Opt) : judI s [o] = if (oneI s o).1 = 4 then (4, [o]) else if (oneI s o).1 = 3 then (3, [(oneI s o).2]) else (2, [o]) := by
  unfold judI
  simp only [List.length_cons, List.length_nil, Nat.zero_add, jiR, List.getElem?_cons_zero, List.take_zero, jiStep, fd_nil, Bool.false_eq_true, false_or, List.nil_append]
  by_cases h4 : (oneI s o).1 = 4
  · simp [h4]
  · by_cases h3 : (oneI s o).1 = 3
    · simp [h3]
    · simp [h4, h3]
theorem jud2 (s : Sd) (o p : Opt) (h : o.1 ≠ p.1) : judI s [o, p] =
    if (oneI s o).1 = 4 then (4, if (oneI s p).1 = 4 then [o, p] else [o]) else if (oneI s p).1 = 4 then (4, [p]) else
    if (oneI s o).1 = 3 then (3, if (oneI s p).1 = 3 then [(oneI s o).2, (oneI s p).2] else [(oneI s o).2]) else if (oneI s p).1 = 3 then (3, [(oneI s p).2]) else (2, [o, p]) := by
  have hf := fd_one (o := o) h
  unfold judI
  simp only [List.length_cons, List.length_nil, Nat.zero_add, Nat.reduceAdd, jiR, List.getElem?_cons_zero, List.getElem?_cons_succ, List.take_zero, List.take_succ_cons, jiStep, fd_nil, hf, Bool.false_eq_true, false_or, List.nil_append]
  by_cases h4 : (oneI s o).1 = 4
  · by_cases p4 : (oneI s p).1 = 4
    · simp [h4, p4]
    · by_cases p3 : (oneI s p).1 = 3
      · simp [h4, p3]
      · simp [h4, p4, p3]
  · by_cases h3 : (oneI s o).1 = 3
    · by_cases p4 : (oneI s p).1 = 4
      · simp [h3, p4]
      · by_cases p3 : (oneI s p).1 = 3
        · simp [h3, p3]
        · simp [h3, p4, p3]
    · by_cases p4 : (oneI s p).1 = 4
      · simp [h4, h3, p4]
      · by_cases p3 : (oneI s p).1 = 3
        · simp [h4, h3, p3]
        · simp [h4, h3, p4, p3]
section
variable {so sg sd o g d : Int} {sa : Bool} (hso : u32ok so) (hsg : u32ok sg) (hsd : u32ok sd) (ho : u32ok o) (hd : u32ok d) (h0 : so ≠ 0) (h4 : sg ≠ 0)
abbrev SS (so sg sd : Int) (sa : Bool) : Sd := ⟨true, so, sg, sd, sa⟩
include ho in
theorem one3 : oneI (SS so sg sd sa) (3, big 4 o) = if o ≠ sg then (3, (3, big 4 sg)) else (2, (3, big 4 o)) := by
  unfold oneI givesI
  rw [ag_addr ho]
  simp
include hd in
theorem one9 : oneI (SS so sg sd sa) (129, big 4 d) = if sd = 0 then (4, (129, big 4 d)) else if d ≠ sd then (3, (129, big 4 sd)) else (2, (129, big 4 d)) := by
  unfold oneI givesI
  rw [ag_addr hd]
  by_cases e : sd = 0 <;> simp [e]
theorem opF : optsI ⟨false, o, g, d, false⟩ = [(3, big 4 o)] := rfl
theorem opT : optsI ⟨false, o, g, d, true⟩ = [(3, big 4 o), (129, big 4 d)] := rfl
include ho hsg h4 in
theorem stF : agStep (SS so sg sd sa) ⟨false, o, g, d, false⟩ = ⟨false, sg, g, d, false⟩ := by
  unfold agStep
  rw [opF, jud1, one3 ho]
  by_cases e : o = sg
  · subst e; simp
  · simp [e, nakedI, toldI, tkI, ag_addr hsg, h4]
include ho hd in
theorem stZ : agStep (SS so sg 0 sa) ⟨false, o, g, d, true⟩ = ⟨false, o, g, d, false⟩ := by
  unfold agStep
  rw [opT, jud2 _ _ _ (by simp), one3 ho, one9 hd]
  by_cases e : o = sg
  · simp [e, rejI, fdR]
  · simp [e, rejI, fdR]
include ho hd hsg hsd h4 in
theorem stT (h9 : sd ≠ 0) : agStep (SS so sg sd sa) ⟨false, o, g, d, true⟩ = ⟨false, sg, g, sd, true⟩ := by
  unfold agStep
  rw [opT, jud2 _ _ _ (by simp), one3 ho, one9 hd]
  by_cases e : o = sg
  · by_cases e9 : d = sd
    · simp [e, e9, h9]
    · simp [e, e9, h9, nakedI, toldI, tkI, ag_addr hsd]
  · by_cases e9 : d = sd
    · simp [e, e9, h9, nakedI, toldI, tkI, ag_addr hsg, h4]
    · simp [e, e9, h9, nakedI, toldI, tkI, ag_addr hsg, ag_addr hsd, h4]
include hsg in
theorem fiF : (judI (SS so sg sd sa) (optsI ⟨false, sg, g, d, false⟩)).1 = 2 := by
  rw [opF, jud1, one3 hsg]; simp
include hsg hsd in
theorem fiT (h9 : sd ≠ 0) : (judI (SS so sg sd sa) (optsI ⟨false, sg, g, sd, true⟩)).1 = 2 := by
  rw [opT, jud2 _ _ _ (by simp), one3 hsg, one9 hsd]; simp [h9]
include hso h0 in
theorem bak (a : Bool) : (judI ⟨false, o, g, d, a⟩ (optsI (SS so sg sd sa))).1 = 2 := by
  have e : optsI (SS so sg sd sa) = [(3, big 4 so)] := rfl
  rw [e, jud1]
  unfold oneI
  rw [ag_addr hso]
  simp [h0]
end
theorem agrees (S C : Sd) (hS : okSd S) (hC : okSd C) (h1 : S.srv = true) (h2 : C.srv = false) (h3 : S.own ≠ 0) (h4 : S.give ≠ 0) :
    (judI S (optsI (agC S C 3))).1 = 2 ∧ (judI (agC S C 3) (optsI S)).1 = 2 ∧ (agC S C 3).own = S.give ∧ ((agC S C 3).asks = false ∨ (agC S C 3).dns = S.dns) := by
  obtain ⟨ss, so, sg, sd, sa⟩ := S
  obtain ⟨cs, o, g, d, a⟩ := C
  simp only at h1 h2 h3 h4
  subst h1 h2
  obtain ⟨hso, hsg, hsd⟩ := hS
  obtain ⟨ho, hg, hd⟩ := hC
  simp only at hso hsg hsd ho hg hd
  have e3 : agC ⟨true, so, sg, sd, sa⟩ ⟨false, o, g, d, a⟩ 3 = agStep ⟨true, so, sg, sd, sa⟩ (agStep ⟨true, so, sg, sd, sa⟩ (agStep ⟨true, so, sg, sd, sa⟩ ⟨false, o, g, d, a⟩)) := rfl
  rw [e3]
  cases a with
  | false =>
    rw [stF hsg ho h4, stF hsg hsg h4, stF hsg hsg h4]
    exact ⟨fiF hsg, bak hso h3 _, rfl, .inl rfl⟩
  | true =>
    by_cases h9 : sd = 0
    · subst h9
      rw [stZ ho hd, stF hsg ho h4, stF hsg hsg h4]
      exact ⟨fiF hsg, bak hso h3 _, rfl, .inl rfl⟩
    · rw [stT hsg hsd ho hd h4 h9, stT hsg hsd hsg hsd h4 h9, stT hsg hsd hsg hsd h4 h9]
      exact ⟨fiT hsg hsd h9, bak hso h3 _, rfl, .inr rfl⟩
end Go.Q
