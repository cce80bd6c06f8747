/- A head of lines, in plain Lean: the program's way to it is the definition's. No condition. -/
import Derived.Test.YtdcknpkednpckaaGreatDoorHp
set_option linter.all false
set_option maxRecDepth 100000
namespace Go.Q
def jn : List (List UInt8) → List UInt8
  | [] => []
  | [x] => x
  | x :: y :: ls => x ++ 13 :: 10 :: jn (y :: ls)
theorem flt_jn : ∀ (ls : List (List UInt8)), ls ≠ [] → flt ls = jn ls ++ [13, 10]
  | [], h => absurd rfl h
  | [x], _ => by simp [flt, jn]
  | x :: y :: ls, _ => by
    have ih := flt_jn (y :: ls) (by simp)
    rw [jn, flt, ih]; simp
theorem ix2_none {x : List UInt8} (h : Txt x) : ixS pat2 x = none := by
  have := ix_tx x h [] [10]
  rw [List.append_nil] at this
  rw [this]; rfl
theorem ix2_some {x : List UInt8} (h : Txt x) (r : List UInt8) : ixS pat2 (x ++ 13 :: 10 :: r) = some x.length := by
  rw [ix_tx x h]
  simp [ixS, List.isPrefixOf, shO]
theorem pieces_jn : ∀ (ls : List (List UInt8)), goodL ls → ls ≠ [] → ∀ n, ls.length ≤ n → piecesN n pat2 (jn ls) = ls
  | [], _, h, _, _ => absurd rfl h
  | [x], h, _, n, hn => by
    obtain ⟨m, rfl⟩ : ∃ m, n = m + 1 := ⟨n - 1, by simp at hn; omega⟩
    obtain ⟨h1, h2⟩ := h x (List.mem_cons_self ..)
    simp [piecesN, jn, ix2_none h2]
  | x :: y :: ls, h, _, n, hn => by
    obtain ⟨m, rfl⟩ : ∃ m, n = m + 1 := ⟨n - 1, by simp at hn; omega⟩
    obtain ⟨h1, h2⟩ := h x (List.mem_cons_self ..)
    have ih := pieces_jn (y :: ls) (fun z hz => h z (List.mem_cons_of_mem _ hz)) (by simp) m (by simp at hn ⊢; omega)
    have e : (x ++ 13 :: 10 :: jn (y :: ls)).drop (x.length + 2) = jn (y :: ls) := by
      rw [List.drop_append]
      simp
    simp only [piecesN, jn, ix2_some h2, List.take_left', List.length_cons, List.length_nil]
    rw [show x.length + (0 + 1 + 1) = x.length + 2 by omega, e, ih]
theorem jn_len : ∀ (ls : List (List UInt8)), goodL ls → ls.length ≤ (jn ls).length
  | [], _ => Nat.le_refl _
  | [x], h => by
    obtain ⟨h1, h2⟩ := h x (List.mem_cons_self ..)
    have := List.length_pos_iff.2 h1
    show 1 ≤ x.length
    omega
  | x :: y :: ls, h => by
    have ih := jn_len (y :: ls) (fun z hz => h z (List.mem_cons_of_mem _ hz))
    simp only [jn, List.length_append, List.length_cons] at ih ⊢
    omega
def hdR (b : List UInt8) : List (List UInt8) × Int × Int := match scan (b.take 2048) 0 [] [] 0 with
  | .form => ([], 0, 3)
  | .fin => ([], 0, if b.length < 2048 then 4 else 8)
  | .done ls n => (ls, n, 0)
def longI (b : List UInt8) : Int := if crB b = true then -2 else match ixS pat4 b with
  | none => -1
  | some k => k
def wholeB (b : List UInt8) : Bool := decide (0 ≤ longI b) || crB b
def stopN (b : List UInt8) : Nat := if wholeB b = true then min (min b.length 2048) (longI b + 4).toNat else min b.length 2048
def pieces2 (s : List UInt8) : List (List UInt8) := piecesN (s.length + 1) pat2 s
def progR (b : List UInt8) : List (List UInt8) × Int × Int :=
  if rights 0 (b.take 2048) (stopN b) = false then ([], 0, 3)
  else if wholeB b = true ∧ longI b + 4 ≤ 2048 then ((pieces2 (b.take (max (longI b) 0).toNat)).filter (fun x => x != []), longI b + 4, 0)
  else if b.length < 2048 then ([], 0, 4) else ([], 0, 8)
theorem goodL.filter {ls : List (List UInt8)} (h : goodL ls) : ls.filter (fun x => x != []) = ls := List.filter_eq_self.2 fun x hx => by
  have := (h x hx).1
  simpa using this
theorem shO_ge {k i : Nat} {o : Option Nat} (h : shO k o = some i) : k ≤ i := by
  obtain ⟨j, _, rfl⟩ := Option.map_eq_some_iff.1 h
  omega
theorem long_ge {b : List UInt8} {ls : List (List UInt8)} {line r : List UInt8} (h : goodL ls) (h2 : Txt line) (e : b = flt ls ++ (line ++ r)) (hr : line = [] → crB r = false) : longI b = -1 ∨ ((flt ls).length + line.length : Int) ≤ longI b := by
  have hcr : crB b = false := by
    subst e
    cases ls with
    | nil =>
      cases line with
      | nil => exact hr rfl
      | cons c line => exact cr_tx h2.cons.1
    | cons x ls => exact cr_flt h
  have hlr : crB (line ++ r) = false := by
    cases line with
    | nil => exact hr rfl
    | cons c line => exact cr_tx h2.cons.1
  unfold longI
  rw [if_neg (by rw [hcr]; simp)]
  have hix : ixS pat4 b = shO ((flt ls).length + line.length) (ixS pat4 r) := by
    subst e
    have e1 := ix_tx line h2 r [10, 13, 10]
    cases ls with
    | nil => simpa [flt] using e1
    | cons x ls =>
      rw [ix4_flt _ h (by simp), hlr, if_neg (by simp), e1]
      simp only [shO, Option.map_map]
      congr 1
      funext k
      simp only [Function.comp_apply]
      omega
  rw [hix]
  cases hq : ixS pat4 r with
  | none => exact .inl rfl
  | some k =>
    right
    simp only [shO, Option.map_some]
    omega
theorem progR_eq (b : List UInt8) : progR b = hdR b := by
  have hb : b = b.take 2048 ++ b.drop 2048 := (List.take_append_drop 2048 b).symm
  have hl : (b.take 2048).length = min 2048 b.length := List.length_take ..
  generalize hb' : b.take 2048 = b' at *
  generalize hd : b.drop 2048 = bd at *
  have hdl : b.length ≤ 2048 → bd = [] := fun h => by rw [← hd]; exact List.drop_of_length_le h
  have hlt : b'.length < 2048 → bd = [] := fun h => hdl (by omega)
  unfold hdR
  rw [hb']
  rcases hdK b' with ⟨ls, rest, g, e⟩ | ⟨ls, line, g, g2, e⟩ | ⟨ls, line, c, rest, g, g2, e, g3, g4⟩
  · -- a whole head
    have hn : (flt ls).length + 2 ≤ b'.length := by rw [e]; simp
    have hlong : longI b = ((flt ls).length : Int) - 2 := by
      rw [hb, e]
      unfold longI
      cases ls with
      | nil =>
        have : crB (flt [] ++ 13 :: 10 :: rest ++ bd) = true := by simp [flt, crB, List.isPrefixOf]
        rw [if_pos this]; rfl
      | cons x ls =>
        have e1 : flt (x :: ls) ++ 13 :: 10 :: rest ++ bd = flt (x :: ls) ++ (13 :: 10 :: (rest ++ bd)) := by simp
        rw [e1, cr_flt g, if_neg (by simp), ix4_flt _ g (by simp)]
        have : crB (13 :: 10 :: (rest ++ bd)) = true := by simp [crB, List.isPrefixOf]
        rw [if_pos this]
        have hlen : 2 ≤ (flt (x :: ls)).length := by simp [flt]; omega
        simp only
        omega
    have hwh : wholeB b = true := by
      unfold wholeB
      rw [hlong]
      cases ls with
      | nil =>
        have : crB b = true := by rw [hb, e]; simp [flt, crB, List.isPrefixOf]
        rw [this]; simp
      | cons x ls =>
        have hlen : 2 ≤ (flt (x :: ls)).length := by simp [flt]; omega
        have : decide (0 ≤ ((flt (x :: ls)).length : Int) - 2) = true := decide_eq_true (by omega)
        rw [this]; rfl
    have hst : stopN b = (flt ls).length + 2 := by
      unfold stopN
      rw [if_pos hwh, hlong]
      omega
    have hri : rights 0 b' (stopN b) = true := by rw [hst, e]; exact rights_whole g rest
    have hsc : scan b' 0 [] [] 0 = .done ls ((flt ls).length + 2) := by rw [e]; exact scan_whole g rest
    unfold progR
    rw [hb', hri, if_neg (by simp), if_pos ⟨hwh, by rw [hlong]; omega⟩, hsc, hlong]
    have hpc : (pieces2 (b.take (max (((flt ls).length : Int) - 2) 0).toNat)).filter (fun x => x != []) = ls := by
      cases ls with
      | nil =>
        have e0 : (max (((flt []).length : Int) - 2) 0).toNat = 0 := by decide
        rw [e0, List.take_zero]; rfl
      | cons x ls =>
        have hlen : 2 ≤ (flt (x :: ls)).length := by simp [flt]; omega
        have e2 : (max (((flt (x :: ls)).length : Int) - 2) 0).toNat = (jn (x :: ls)).length := by
          have := congrArg List.length (flt_jn (x :: ls) (by simp))
          simp only [List.length_append, List.length_cons, List.length_nil] at this
          omega
        have e3 : b.take (jn (x :: ls)).length = jn (x :: ls) := by
          rw [hb, e, flt_jn (x :: ls) (by simp)]
          simp
        rw [e2, e3]
        unfold pieces2
        rw [pieces_jn _ g (by simp) _ (by have := jn_len _ g; omega)]
        exact g.filter
    rw [hpc]
    simp only [Prod.mk.injEq, true_and, and_true]
    omega
  · -- the beginning of one
    have hsc : scan b' 0 [] [] 0 = .fin := by
      rcases e with e | e
      · rw [e]; exact (scan_begin g g2).1
      · rw [e]; exact (scan_begin g g2).2
    have hri : ∀ n, rights 0 b' n = true := fun n => by
      rcases e with e | e
      · rw [e]; exact (rights_begin g g2 n).1
      · rw [e]; exact (rights_begin g g2 n).2
    have hno : ¬ (wholeB b = true ∧ longI b + 4 ≤ 2048) := by
      rintro ⟨hw, hle⟩
      have key : longI b = -1 ∨ (2045 : Int) ≤ longI b := by
        by_cases hs : b'.length < 2048
        · -- nothing is behind
          have hbe : b = b' := by rw [hb, hlt hs, List.append_nil]
          rcases e with e | e
          · have := long_ge (b := b) (r := []) g g2 (by rw [hbe, e]; simp) (fun _ => rfl)
            unfold longI at this ⊢
            rcases this with h | h
            · exact .inl h
            · left
              have hcr : crB b = false := by
                rw [hbe, e]
                cases ls with
                | nil => cases line with
                  | nil => rfl
                  | cons c line => exact cr_tx g2.cons.1
                | cons x ls => exact cr_flt g
              rw [if_neg (by rw [hcr]; simp)]
              have hix : ixS pat4 b = none := by
                rw [hbe, e]
                have e1 := ix_tx line g2 [] [10, 13, 10]
                rw [List.append_nil] at e1
                have e2 : ixS pat4 line = none := by rw [e1]; rfl
                have hlr : crB line = false := by
                  cases line with
                  | nil => rfl
                  | cons c line => exact cr_tx g2.cons.1
                cases ls with
                | nil => simpa [flt] using e2
                | cons x ls => rw [ix4_flt _ g (by simp), hlr, if_neg (by simp), e2]; rfl
              rw [hix]
          · left
            have hlr : crB (line ++ [13]) = false := by
              cases line with
              | nil => rfl
              | cons c line => exact cr_tx g2.cons.1
            have e1 := ix_tx line g2 [13] [10, 13, 10]
            have e2 : ixS pat4 (line ++ [13]) = none := by rw [e1]; rfl
            unfold longI
            have hcr : crB b = false := by
              rw [hbe, e]
              cases ls with
              | nil => exact hlr
              | cons x ls => exact cr_flt g
            rw [if_neg (by rw [hcr]; simp)]
            have hix : ixS pat4 b = none := by
              rw [hbe, e]
              cases ls with
              | nil => simpa [flt] using e2
              | cons x ls => rw [ix4_flt _ g (by simp), hlr, if_neg (by simp), e2]; rfl
            rw [hix]
        · -- 2048 bytes
          have hlen : b'.length = 2048 := by omega
          by_cases hle0 : line = []
          · subst hle0
            have hfl : 2047 ≤ (flt ls).length := by
              rcases e with e | e
              · have := congrArg List.length e; simp at this; omega
              · have := congrArg List.length e; simp at this; omega
            have hne : ls ≠ [] := fun h0 => by subst h0; simp [flt] at hfl
            obtain ⟨r, hr⟩ : ∃ r, b = flt ls ++ r := by
              rcases e with e | e
              · exact ⟨bd, by rw [hb, e]; simp⟩
              · exact ⟨13 :: bd, by rw [hb, e]; simp⟩
            unfold longI
            have hcr : crB b = false := by
              rw [hr]
              cases ls with
              | nil => exact absurd rfl hne
              | cons x ls => exact cr_flt g
            rw [if_neg (by rw [hcr]; simp), hr, ix4_flt _ g hne]
            by_cases hc : crB r = true
            · rw [if_pos hc]
              right
              simp only
              omega
            · rw [if_neg hc]
              cases hq : ixS pat4 r with
              | none => exact .inl rfl
              | some k =>
                right
                simp only [shO, Option.map_some]
                omega
          · rcases e with e | e
            · have hL := long_ge (b := b) (r := bd) g g2 (by rw [hb, e]; simp) (fun h => absurd h hle0)
              have := congrArg List.length e
              simp at this
              rcases hL with h | h
              · exact .inl h
              · right; omega
            · have hL := long_ge (b := b) (r := 13 :: bd) g g2 (by rw [hb, e]; simp) (fun h => absurd h hle0)
              have := congrArg List.length e
              simp at this
              rcases hL with h | h
              · exact .inl h
              · right; omega
      rcases key with k | k
      · have hcr : crB b = false := by
          cases hcr : crB b with
          | false => rfl
          | true =>
            unfold longI at k
            rw [if_pos hcr] at k
            cases k
        unfold wholeB at hw
        rw [k, hcr] at hw
        revert hw; decide
      · omega
    unfold progR
    rw [hb', hri, if_neg (by simp), if_neg hno, hsc]
    simp only
    split <;> rfl
  · -- wrong
    have hsc : scan b' 0 [] [] 0 = .form := by rw [e]; exact scan_wrong g g2 g3 g4
    have hlr : line = [] → crB (c :: (rest ++ bd)) = false := fun _ => by
      by_cases e13 : c = 13
      · subst e13
        obtain ⟨d, r, rfl, hd⟩ := g4 rfl
        have : ((10 : UInt8) == d) = false := by simpa using Ne.symm hd
        simp [crB, List.isPrefixOf, this]
      · have : ((13 : UInt8) == c) = false := by simpa using Ne.symm e13
        simp [crB, List.isPrefixOf, this]
    have hL := long_ge (b := b) (r := c :: (rest ++ bd)) g g2 (by rw [hb, e]; simp) hlr
    have hlen : (flt ls).length + line.length < b'.length := by rw [e]; simp
    have hst : (flt ls).length + line.length < stopN b := by
      unfold stopN
      split
      · rename_i hw
        rcases hL with h | h
        · have hcr : crB b = false := by
            cases hcr : crB b with
            | false => rfl
            | true =>
              unfold longI at h
              rw [if_pos hcr] at h
              cases h
          unfold wholeB at hw
          rw [h, hcr] at hw
          simp at hw
        · omega
      · omega
    have hri : rights 0 b' (stopN b) = false := by rw [e]; exact rights_wrong g g2 g3 g4 _ hst
    unfold progR
    rw [hb', hri, if_pos rfl, hsc]
end Go.Q
