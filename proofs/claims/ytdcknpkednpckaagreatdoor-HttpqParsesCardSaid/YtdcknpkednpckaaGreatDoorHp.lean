/- A head of lines, in plain Lean: what its bytes are, where it ends, and what is wrong with it. No condition. -/
import Derived.Test.YtdcknpkednpckaaGreatDoorEpd
set_option linter.all false
set_option maxRecDepth 100000
namespace Go.Q
def txB (c : UInt8) : Bool := decide (32 ≤ c.toNat ∧ c.toNat ≤ 126) || decide (c.toNat = 9)
def Txt (x : List UInt8) : Prop := ∀ c ∈ x, txB c = true
def flt : List (List UInt8) → List UInt8
  | [] => []
  | x :: ls => x ++ 13 :: 10 :: flt ls
def goodL (ls : List (List UInt8)) : Prop := ∀ x ∈ ls, x ≠ [] ∧ Txt x
theorem Txt.nil : Txt [] := fun c h => by cases h
theorem Txt.cons {c : UInt8} {x : List UInt8} (h : Txt (c :: x)) : txB c = true ∧ Txt x := ⟨h c (List.mem_cons_self ..), fun d hd => h d (List.mem_cons_of_mem _ hd)⟩
theorem tx13 {c : UInt8} (h : txB c = true) : c ≠ 13 ∧ c ≠ 10 := by
  constructor <;> (rintro rfl; revert h; decide)
theorem span_tx : ∀ l : List UInt8, ∃ t r, l = t ++ r ∧ Txt t ∧ (r = [] ∨ ∃ c r', r = c :: r' ∧ txB c = false)
  | [] => ⟨[], [], rfl, Txt.nil, .inl rfl⟩
  | a :: l => by
    cases ha : txB a with
    | false => exact ⟨[], a :: l, rfl, Txt.nil, .inr ⟨a, l, rfl, ha⟩⟩
    | true =>
      obtain ⟨t, r, rfl, h1, h2⟩ := span_tx l
      exact ⟨a :: t, r, rfl, fun c hc => by
        rcases List.mem_cons.1 hc with rfl | hc
        · exact ha
        · exact h1 c hc, h2⟩
inductive HdK (l : List UInt8) : Prop where
  | whole (ls rest) (h : goodL ls) (e : l = flt ls ++ 13 :: 10 :: rest)
  | begin (ls line) (h : goodL ls) (h2 : Txt line) (e : l = flt ls ++ line ∨ l = flt ls ++ (line ++ [13]))
  | wrong (ls line c rest) (h : goodL ls) (h2 : Txt line) (e : l = flt ls ++ (line ++ c :: rest)) (h3 : txB c = false) (h4 : c = 13 → ∃ d r, rest = d :: r ∧ d ≠ 10)
theorem goodL.nil : goodL [] := fun x h => by cases h
theorem goodL.cons {x : List UInt8} {ls : List (List UInt8)} (h1 : x ≠ []) (h2 : Txt x) (h : goodL ls) : goodL (x :: ls) := fun y hy => by
  rcases List.mem_cons.1 hy with rfl | hy
  · exact ⟨h1, h2⟩
  · exact h y hy
theorem flt_cons (x : List UInt8) (ls : List (List UInt8)) (r : List UInt8) : flt (x :: ls) ++ r = x ++ 13 :: 10 :: (flt ls ++ r) := by simp [flt]
theorem hdK (l : List UInt8) : HdK l := by
  generalize hn : l.length = n
  induction n using Nat.strongRecOn generalizing l with
  | _ n ih =>
  obtain ⟨t, r, rfl, h1, rfl | ⟨c, r', rfl, hc⟩⟩ := span_tx l
  · exact .begin [] t goodL.nil h1 (.inl (by simp [flt]))
  by_cases e : c = 13
  · subst e
    cases r' with
    | nil => exact .begin [] t goodL.nil h1 (.inr (by simp [flt]))
    | cons d r' =>
      by_cases ed : d = 10
      · subst ed
        cases t with
        | nil => exact .whole [] r' goodL.nil (by simp [flt])
        | cons a t =>
          have := ih r'.length (by rw [← hn]; simp; omega) r' rfl
          rcases this with ⟨ls, rest, g, e⟩ | ⟨ls, line, g, g2, e⟩ | ⟨ls, line, c, rest, g, g2, e, g3, g4⟩
          · exact .whole ((a :: t) :: ls) rest (goodL.cons (by simp) h1 g) (by rw [flt_cons, ← e])
          · refine .begin ((a :: t) :: ls) line (goodL.cons (by simp) h1 g) g2 ?_
            rcases e with e | e
            · exact .inl (by rw [flt_cons, ← e])
            · exact .inr (by rw [flt_cons, ← e])
          · exact .wrong ((a :: t) :: ls) line c rest (goodL.cons (by simp) h1 g) g2 (by rw [flt_cons, ← e]) g3 g4
      · exact .wrong [] t 13 (d :: r') goodL.nil h1 (by simp [flt]) hc fun _ => ⟨d, r', rfl, ed⟩
  · exact .wrong [] t c r' goodL.nil h1 (by simp [flt]) hc fun h => absurd h e
inductive HdR where
  | form | fin | done (ls : List (List UInt8)) (n : Nat)
def nxtB : List UInt8 → Bool
  | [] => true
  | d :: _ => d == 10
def scan : List UInt8 → UInt8 → List UInt8 → List (List UInt8) → Nat → HdR
  | [], _, _, _, _ => .fin
  | c :: r, p, line, ls, i =>
    if txB c = true then scan r c (line ++ [c]) ls (i + 1)
    else if c = 13 ∧ nxtB r = true then scan r 13 line ls (i + 1)
    else if c = 10 ∧ p = 13 then (if line = [] then .done ls (i + 1) else scan r 10 [] (ls ++ [line]) (i + 1))
    else .form
theorem scan_p {p q : UInt8} (hp : p ≠ 13) (hq : q ≠ 13) (r line ls i) : scan r p line ls i = scan r q line ls i := by
  cases r with
  | nil => rfl
  | cons c r => simp [scan, hp, hq]
theorem scan_tx : ∀ (x : List UInt8), Txt x → ∀ (r : List UInt8) (p : UInt8) (line ls i), p ≠ 13 → scan (x ++ r) p line ls i = scan r 10 (line ++ x) ls (i + x.length)
  | [], _, r, p, line, ls, i, hp => by simpa using scan_p hp (by decide) r line ls i
  | c :: x, h, r, p, line, ls, i, hp => by
    obtain ⟨h1, h2⟩ := h.cons
    have ih := scan_tx x h2 r c (line ++ [c]) ls (i + 1) (tx13 h1).1
    simp only [List.cons_append, scan, h1, if_true, ih]
    simp [Nat.add_assoc, Nat.add_comm 1]
theorem scan_line {x : List UInt8} (hx : Txt x) (hne : x ≠ []) (r : List UInt8) (p : UInt8) (ls i) (hp : p ≠ 13) : scan (x ++ 13 :: 10 :: r) p [] ls i = scan r 10 [] (ls ++ [x]) (i + x.length + 2) := by
  rw [scan_tx x hx _ _ _ _ _ hp]
  have h1 : txB 13 = false := by decide
  have h2 : txB 10 = false := by decide
  simp [scan, h1, h2, nxtB, hne]
theorem scan_flt : ∀ (as : List (List UInt8)), goodL as → ∀ (r : List UInt8) (p : UInt8) (ls i), p ≠ 13 → scan (flt as ++ r) p [] ls i = scan r 10 [] (ls ++ as) (i + (flt as).length)
  | [], _, r, p, ls, i, hp => by simpa [flt] using scan_p hp (by decide) r [] ls i
  | x :: as, h, r, p, ls, i, hp => by
    obtain ⟨h1, h2⟩ := h x (List.mem_cons_self ..)
    rw [flt_cons, scan_line h2 h1 _ _ _ _ hp, scan_flt as (fun y hy => h y (List.mem_cons_of_mem _ hy)) r 10 _ _ (by decide)]
    have e : i + x.length + 2 + (flt as).length = i + (flt (x :: as)).length := by simp [flt]; omega
    rw [e]
    simp
theorem scan_whole {ls : List (List UInt8)} (h : goodL ls) (rest : List UInt8) : scan (flt ls ++ 13 :: 10 :: rest) 0 [] [] 0 = .done ls ((flt ls).length + 2) := by
  rw [scan_flt ls h _ _ _ _ (by decide)]
  have h1 : txB 13 = false := by decide
  have h2 : txB 10 = false := by decide
  simp [scan, h1, h2, nxtB]
theorem scan_begin {ls : List (List UInt8)} {line : List UInt8} (h : goodL ls) (h2 : Txt line) : scan (flt ls ++ line) 0 [] [] 0 = .fin ∧ scan (flt ls ++ (line ++ [13])) 0 [] [] 0 = .fin := by
  have h3 : txB 13 = false := by decide
  constructor
  · rw [scan_flt ls h _ _ _ _ (by decide)]
    have := scan_tx line h2 [] 10 [] ls (0 + (flt ls).length) (by decide)
    rw [List.append_nil] at this
    simp only [List.nil_append] at this ⊢
    rw [this]; rfl
  · rw [scan_flt ls h _ _ _ _ (by decide), scan_tx line h2 [13] 10 _ _ _ (by decide)]
    simp [scan, h3, nxtB]
theorem scan_wrong {ls : List (List UInt8)} {line : List UInt8} {c : UInt8} {rest : List UInt8} (h : goodL ls) (h2 : Txt line) (h3 : txB c = false) (h4 : c = 13 → ∃ d r, rest = d :: r ∧ d ≠ 10) : scan (flt ls ++ (line ++ c :: rest)) 0 [] [] 0 = .form := by
  rw [scan_flt ls h _ _ _ _ (by decide), scan_tx line h2 _ 10 _ _ _ (by decide)]
  have h5 : ¬ (c = 13 ∧ nxtB rest = true) := fun ⟨e, h6⟩ => by
    obtain ⟨d, r, rfl, h7⟩ := h4 e
    simp [nxtB, h7] at h6
  have h6 : ¬ (c = 10 ∧ (10 : UInt8) = 13) := fun h => absurd h.2 (by decide)
  simp only [scan, h3, Bool.false_eq_true, if_false, if_neg h5, if_neg h6]
def rtc (p c : UInt8) (r : List UInt8) : Bool := if c = 13 then nxtB r else if c = 10 then p == 13 else txB c
def rights : UInt8 → List UInt8 → Nat → Bool
  | _, [], _ => true
  | _, _ :: _, 0 => true
  | p, c :: r, n + 1 => rtc p c r && rights c r n
theorem rtc_tx {p c : UInt8} {r : List UInt8} (h : txB c = true) : rtc p c r = true := by
  obtain ⟨h1, h2⟩ := tx13 h
  simp [rtc, h1, h2, h]
theorem rights_p {p q : UInt8} (hp : p ≠ 13) (hq : q ≠ 13) (r : List UInt8) (n : Nat) : rights p r n = rights q r n := by
  cases r with
  | nil => rfl
  | cons c r => cases n with
    | zero => rfl
    | succ n =>
      have e1 : (p == 13) = false := by simpa using hp
      have e2 : (q == 13) = false := by simpa using hq
      simp only [rights, rtc, e1, e2]
theorem rights_tx : ∀ (x : List UInt8), Txt x → ∀ (r : List UInt8) (p : UInt8) (n), p ≠ 13 → rights p (x ++ r) n = rights 10 r (n - x.length)
  | [], _, r, p, n, hp => by simpa using rights_p hp (by decide) r n
  | c :: x, h, r, p, n, hp => by
    obtain ⟨h1, h2⟩ := h.cons
    cases n with
    | zero =>
      have : ∀ q, rights q r 0 = true := fun q => by cases r <;> rfl
      simp [rights, this]
    | succ n =>
      have ih := rights_tx x h2 r c n (tx13 h1).1
      simp only [List.cons_append, rights, rtc_tx h1, Bool.true_and, ih]
      congr 1
      simp
theorem rights_line {x : List UInt8} (hx : Txt x) (r : List UInt8) (p : UInt8) (n : Nat) (hp : p ≠ 13) : rights p (x ++ 13 :: 10 :: r) n = rights 10 r (n - x.length - 2) := by
  rw [rights_tx x hx _ _ _ hp]
  have z : ∀ q, rights q r 0 = true := fun q => by cases r <;> rfl
  match n - x.length with
  | 0 => simp [rights, z]
  | 1 => simp [rights, rtc, nxtB, z]
  | m + 2 => simp [rights, rtc, nxtB]
theorem rights_flt : ∀ (as : List (List UInt8)), goodL as → ∀ (r : List UInt8) (p : UInt8) (n), p ≠ 13 → rights p (flt as ++ r) n = rights 10 r (n - (flt as).length)
  | [], _, r, p, n, hp => by simpa [flt] using rights_p hp (by decide) r n
  | x :: as, h, r, p, n, hp => by
    obtain ⟨h1, h2⟩ := h x (List.mem_cons_self ..)
    rw [flt_cons, rights_line h2 _ _ _ hp, rights_flt as (fun y hy => h y (List.mem_cons_of_mem _ hy)) r 10 _ (by decide)]
    congr 1
    simp [flt]; omega
theorem rights_begin {ls : List (List UInt8)} {line : List UInt8} (h : goodL ls) (h2 : Txt line) (n : Nat) : rights 0 (flt ls ++ line) n = true ∧ rights 0 (flt ls ++ (line ++ [13])) n = true := by
  constructor
  · rw [rights_flt ls h _ _ _ (by decide)]
    have := rights_tx line h2 [] 10 (n - (flt ls).length) (by decide)
    rw [List.append_nil] at this
    rw [this]; rfl
  · rw [rights_flt ls h _ _ _ (by decide), rights_tx line h2 [13] 10 _ (by decide)]
    cases n - (flt ls).length - line.length <;> simp [rights, rtc, nxtB]
theorem rights_whole {ls : List (List UInt8)} (h : goodL ls) (rest : List UInt8) : rights 0 (flt ls ++ 13 :: 10 :: rest) ((flt ls).length + 2) = true := by
  rw [rights_flt ls h _ _ _ (by decide)]
  have : (flt ls).length + 2 - (flt ls).length = 2 := by omega
  rw [this]
  cases rest <;> simp [rights, rtc, nxtB]
theorem rights_wrong {ls : List (List UInt8)} {line : List UInt8} {c : UInt8} {rest : List UInt8} (h : goodL ls) (h2 : Txt line) (h3 : txB c = false) (h4 : c = 13 → ∃ d r, rest = d :: r ∧ d ≠ 10) (n : Nat) (hn : (flt ls).length + line.length < n) :
    rights 0 (flt ls ++ (line ++ c :: rest)) n = false := by
  rw [rights_flt ls h _ _ _ (by decide), rights_tx line h2 _ 10 _ (by decide)]
  obtain ⟨m, hm⟩ : ∃ m, n - (flt ls).length - line.length = m + 1 := ⟨n - (flt ls).length - line.length - 1, by omega⟩
  have : rtc 10 c rest = false := by
    unfold rtc
    by_cases e : c = 13
    · rw [if_pos e]
      obtain ⟨d, r, rfl, h7⟩ := h4 e
      simpa [nxtB] using h7
    · rw [if_neg e]
      by_cases e2 : c = 10
      · rw [if_pos e2]; rfl
      · rw [if_neg e2]; exact h3
  rw [hm]
  simp only [rights, this, Bool.false_and]
abbrev pat4 : List UInt8 := [13, 10, 13, 10]
abbrev pat2 : List UInt8 := [13, 10]
def shO (k : Nat) (o : Option Nat) : Option Nat := o.map (· + k)
theorem ix_tx : ∀ (x : List UInt8), Txt x → ∀ (r t : List UInt8), ixS (13 :: t) (x ++ r) = shO x.length (ixS (13 :: t) r)
  | [], _, r, t => by simp [shO]
  | c :: x, h, r, t => by
    obtain ⟨h1, h2⟩ := h.cons
    have hc : ((13 : UInt8) == c) = false := by simpa using Ne.symm (tx13 h1).1
    have ih := ix_tx x h2 r t
    simp only [List.cons_append, ixS, List.isPrefixOf, hc, Bool.false_and, Bool.false_eq_true, if_false, ih, shO]
    cases ixS (13 :: t) r with
    | none => rfl
    | some k => simp only [Option.map_some, List.length_cons]; congr 1
def crB (l : List UInt8) : Bool := pat2.isPrefixOf l
theorem ix4_line (r : List UInt8) : ixS pat4 (13 :: 10 :: r) = if crB r = true then some 0 else shO 2 (ixS pat4 r) := by
  simp only [ixS, List.isPrefixOf, crB]
  by_cases h : pat2.isPrefixOf r = true
  · have h' : ([13, 10] : List UInt8).isPrefixOf r = true := h
    simp [h']
  · have h' : ([13, 10] : List UInt8).isPrefixOf r = false := Bool.eq_false_iff.2 h
    simp [h', shO, Option.map_map, Function.comp_def]
theorem cr_tx {c : UInt8} {x : List UInt8} (h : txB c = true) : crB (c :: x) = false := by
  have hc : ((13 : UInt8) == c) = false := by simpa using Ne.symm (tx13 h).1
  simp [crB, List.isPrefixOf, hc]
theorem cr_flt {x : List UInt8} {ls : List (List UInt8)} {r : List UInt8} (h : goodL (x :: ls)) : crB (flt (x :: ls) ++ r) = false := by
  obtain ⟨h1, h2⟩ := h x (List.mem_cons_self ..)
  cases x with
  | nil => exact absurd rfl h1
  | cons c x => rw [flt_cons]; exact cr_tx h2.cons.1
theorem ix4_flt : ∀ (as : List (List UInt8)), goodL as → as ≠ [] → ∀ r : List UInt8, ixS pat4 (flt as ++ r) = if crB r = true then some ((flt as).length - 2) else shO (flt as).length (ixS pat4 r)
  | [], _, h, _ => absurd rfl h
  | [x], h, _, r => by
    obtain ⟨h1, h2⟩ := h x (List.mem_cons_self ..)
    have hl : (flt [x]).length = x.length + 2 := by simp [flt]
    have e0 : flt [] ++ r = r := rfl
    rw [flt_cons, ix_tx x h2, ix4_line, hl, e0]
    by_cases hc : crB r = true
    · rw [if_pos hc, if_pos hc]; simp [shO]
    · rw [if_neg hc, if_neg hc]
      simp only [shO, Option.map_map]
      congr 1
      funext k
      simp only [Function.comp_apply]
      omega
  | x :: y :: as, h, _, r => by
    obtain ⟨h1, h2⟩ := h x (List.mem_cons_self ..)
    have h3 : goodL (y :: as) := fun z hz => h z (List.mem_cons_of_mem _ hz)
    have ih := ix4_flt (y :: as) h3 (by simp) r
    rw [flt_cons, ix_tx x h2, ix4_line, cr_flt h3, if_neg (by simp), ih]
    have hlen : 2 ≤ (flt (y :: as)).length := by simp [flt]; omega
    have hl : (flt (x :: y :: as)).length = x.length + 2 + (flt (y :: as)).length := by
      show (x ++ 13 :: 10 :: flt (y :: as)).length = _
      simp; omega
    split
    · simp only [shO, Option.map_some]
      congr 1
      omega
    · simp only [shO, Option.map_map]
      congr 1
      funext k
      simp only [Function.comp_apply]
      omega
end Go.Q
