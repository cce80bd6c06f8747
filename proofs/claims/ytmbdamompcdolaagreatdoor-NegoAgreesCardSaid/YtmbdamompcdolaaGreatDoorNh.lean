/- Two ends that talk come to Opened: the law NegoAgrees. No condition. -/
import Derived.Test.YtmbdamompcdolaaGreatDoorNg
import Derived.Test.YtmbdamompcdolaaGreatDoorNf
set_option linter.all false
set_option maxRecDepth 100000
namespace Go.Q
open SOp SCode
attribute [local congr] bind_c map_c
def oD : Nat → List Ctl → D
  | 0, _ => .nils 3
  | _ + 1, l => .lin 3 (cvs l)
abbrev Pls (d : D) : Prop := ∀ st n, popD st n d = d
theorem oD_pl (i : Nat) (l : List Ctl) : Pls (oD i l) := fun st n => by cases i <;> rfl
abbrev zB : Blk := .row [.agg [.v (.int .i64 0), .v (.int .i64 0), .v (.int .i64 0), .v (.int .u8 0), .nils 2, .v (.bool false), .v (.int .u16 0), .v (.int .u32 0), .v (.bool false), .v (.bool false), .v (.bool false), .v (.int .u32 0), .v (.int .u32 0), .v (.int .u32 0), .v (.bool false), .nils 2, .v (.int .i64 0)]]
abbrev tkE (p q : Ng) (e9 e10 e12 e13 e14 e15 e16 e17 e21 e22 e23 : D) : List D := [.v (nv p), .v (nv q), .v (.int .i64 12), .ptr ⟨0, 0⟩ 0 0, .ptr ⟨0, 1⟩ 0 0, .ptr ⟨0, 2⟩ 0 0, .ptr ⟨0, 3⟩ 0 0, .ptr ⟨0, 4⟩ 0 0, .ptr ⟨0, 5⟩ 0 0, e9, e10, .v (.int .i64 12), e12, e13, e14, e15, e16, e17, .undef, .undef, .undef, e21, e22, e23, .undef, .undef, .undef]
theorem tl_b (p q m : Ng) (l : List Ctl) (R4 R5 : Blk) (e9 e10 e12 e13 : D) (h9 : Pls e9) (h10 : Pls e10) (h12 : Pls e12) (h13 : Pls e13) (z15 z16 z17 : D) (h15 : Pls z15) (h16 : Pls z16) (h17 : Pls z17) (d15 : D) (hd : d15 = .v (.slc 3 (cvs l)) ∨ l = []) (hdp : Pls d15) (n : Ng) (k : Nat) (hk : k ≤ 5000) (hn : InvN k n) (hl : ∀ c ∈ l, okP c) (hlen : l.length ≤ 5000) :
    ex G (.loop [18, 19, 20] euphroelaw27_talk.l1) (tkE p q e9 e10 e12 e13 (oD 0 ([])) d15 (.v (.int .i64 (l.length : Nat))) (.v (.int .i64 0)) z15 z16 z17) [[], [.row [.v (nv m)], .row [.v (nv n)], zB, zB, R4, R5]] = some (.exit 2, tkE p q e9 e10 e12 e13 (oD l.length ((feed n l).2)) d15 (.v (.int .i64 (l.length : Nat))) (.v (.int .i64 (l.length : Nat))) z15 z16 z17, [[], [.row [.v (nv m)], .row [.v (nv (feed n l).1)], zB, zB, R4, R5]]) := by
  have hM := hmax
  have L := lpFor (G := G) (kill := [18, 19, 20]) (body := euphroelaw27_talk.l1) (fun i => tkE p q e9 e10 e12 e13 (oD i ((feed n (l.take i)).2)) d15 (.v (.int .i64 (l.length : Nat))) (.v (.int .i64 (i : Nat))) z15 z16 z17) (fun i => [[], [.row [.v (nv m)], .row [.v (nv (feed n (l.take i)).1)], zB, zB, R4, R5]]) l.length
    (fun i hi => by
      have hdd : d15 = .v (.slc 3 (cvs l)) := by
        rcases hd with h | h
        · exact h
        · subst h; simp at hi
      subst hdd
      have inv := feed_inv (l.take i) n k hn (fun c hc => hl c (List.mem_of_mem_take hc))
      have hx := cvs_at (List.getElem?_eq_getElem hi)
      have hc := hl _ (List.getElem_mem hi)
      have i1 := inv.1
      have i3 := inv.2.2
      have lt : (l.take i).length = i := by rw [List.length_take]; omega
      rw [lt] at i1 i3
      have nk := i1.nk
      have tk := n_take (feed n (l.take i)).1 l[i] i1.n i1.s (by constructor <;> omega) hc.1 (by omega)
      have o2 := (n_takeOk _ l[i] i1 hc.1 hc.2).2.len
      rw [feed_succ hi]
      generalize l[i] = c at *
      generalize feed n (l.take i) = f at *
      obtain ⟨m1, ps⟩ := f
      generalize takN m1 c = t at *
      obtain ⟨m2, o⟩ := t
      obtain ⟨opk, ou, od, os, of⟩ := o
      simp only [nv, ov, cv] at *
      cases i with
      | zero =>
        have : ps = [] := by simpa using i3
        subst this
        simp -implicitDefEqProofs (maxSteps := 2000000) (disch := omega) only [euphroelaw27_talk.l1, tkE, nv, ov, cv, hx, tk, cvs_len, oD, h9, h10, h12, h13, h15, h16, h17, List.nil_append, go_sem, reduceIte, Nat.reduceAdd, Nat.reduceSub, Nat.reduceMul, Nat.reduceLeDiff, Nat.reduceLT, Nat.reduceEqDiff, Int.reduceToNat, Int.reduceLT, Int.reduceLE, Int.reduceEq, Int.reduceNe, Int.reduceAdd, Int.reduceSub, Int.reduceMul, Int.reduceNeg, Int.reduceBEq, Int.reduceBNe, reduceCtorEq, dreduceIte, oWS, oW8, oW16, oW32, oW64, oLtT, oLtF, oLeT, oLeF, oNLtT, oNLtF, oNLeT, oNLeF, oEqT, oEqF, oNEqT, oNEqF, oBeqT, oBeqF, oBneT, oBneF, Int.natCast_add, List.take_length]
      | succ i =>
        have tn : ((i : Int) + 1).toNat = i + 1 := by omega
        simp -implicitDefEqProofs (maxSteps := 2000000) (disch := omega) only [tn, euphroelaw27_talk.l1, tkE, nv, ov, cv, hx, tk, cvs_len, oD, h9, h10, h12, h13, h15, h16, h17, cvs_app, go_sem, reduceIte, Nat.reduceAdd, Nat.reduceSub, Nat.reduceMul, Nat.reduceLeDiff, Nat.reduceLT, Nat.reduceEqDiff, Int.reduceToNat, Int.reduceLT, Int.reduceLE, Int.reduceEq, Int.reduceNe, Int.reduceAdd, Int.reduceSub, Int.reduceMul, Int.reduceNeg, Int.reduceBEq, Int.reduceBNe, reduceCtorEq, dreduceIte, oWS, oW8, oW16, oW32, oW64, oLtT, oLtF, oLeT, oLeF, oNLtT, oNLtF, oNLeT, oNLeF, oEqT, oEqF, oNEqT, oNEqF, oBeqT, oBeqF, oBneT, oBneF, Int.natCast_add, List.take_length]) (by
      have hoo := oD_pl l.length (feed n l).2
      simp -implicitDefEqProofs (maxSteps := 2000000) (disch := omega) only [euphroelaw27_talk.l1, tkE, hoo, h9, h10, h12, h13, h15, h16, h17, hdp, go_sem, reduceIte, Nat.reduceAdd, Nat.reduceSub, Nat.reduceMul, Nat.reduceLeDiff, Nat.reduceLT, Nat.reduceEqDiff, Int.reduceToNat, Int.reduceLT, Int.reduceLE, Int.reduceEq, Int.reduceNe, Int.reduceAdd, Int.reduceSub, Int.reduceMul, Int.reduceNeg, Int.reduceBEq, Int.reduceBNe, reduceCtorEq, dreduceIte, oWS, oW8, oW16, oW32, oW64, oLtT, oLtF, oLeT, oLeF, oNLtT, oNLtF, oNLeT, oNLeF, oEqT, oEqF, oNEqT, oNEqF, oBeqT, oBeqF, oBneT, oBneF, Int.natCast_add, List.take_length]; rfl)
  have t0 : l.take 0 = [] := List.take_zero
  simp only [List.take_length, t0, feed0, z0, Int.cast_ofNat_Int, List.take_zero, List.map_nil, List.drop_zero, accN, b8_nil, Int.sub_zero, Int.add_zero, Int.zero_add, Nat.zero_add, Nat.sub_zero, List.nil_append, List.append_nil] at L
  exact L
theorem tl_a (p q m : Ng) (l : List Ctl) (R4 R5 : Blk) (e9 e10 e12 e13 : D) (h9 : Pls e9) (h10 : Pls e10) (h12 : Pls e12) (h13 : Pls e13) (z15 z16 z17 : D) (h15 : Pls z15) (h16 : Pls z16) (h17 : Pls z17) (d15 : D) (hd : d15 = .v (.slc 3 (cvs l)) ∨ l = []) (hdp : Pls d15) (n : Ng) (k : Nat) (hk : k ≤ 5000) (hn : InvN k n) (hl : ∀ c ∈ l, okP c) (hlen : l.length ≤ 5000) :
    ex G (.loop [24, 25, 26] euphroelaw27_talk.l2) (tkE p q e9 e10 e12 (oD 0 ([])) e13 z15 z16 z17 d15 (.v (.int .i64 (l.length : Nat))) (.v (.int .i64 0))) [[], [.row [.v (nv n)], .row [.v (nv m)], zB, zB, R4, R5]] = some (.exit 4, tkE p q e9 e10 e12 (oD l.length ((feed n l).2)) e13 z15 z16 z17 d15 (.v (.int .i64 (l.length : Nat))) (.v (.int .i64 (l.length : Nat))), [[], [.row [.v (nv (feed n l).1)], .row [.v (nv m)], zB, zB, R4, R5]]) := by
  have hM := hmax
  have L := lpFor (G := G) (kill := [24, 25, 26]) (body := euphroelaw27_talk.l2) (fun i => tkE p q e9 e10 e12 (oD i ((feed n (l.take i)).2)) e13 z15 z16 z17 d15 (.v (.int .i64 (l.length : Nat))) (.v (.int .i64 (i : Nat)))) (fun i => [[], [.row [.v (nv (feed n (l.take i)).1)], .row [.v (nv m)], zB, zB, R4, R5]]) l.length
    (fun i hi => by
      have hdd : d15 = .v (.slc 3 (cvs l)) := by
        rcases hd with h | h
        · exact h
        · subst h; simp at hi
      subst hdd
      have inv := feed_inv (l.take i) n k hn (fun c hc => hl c (List.mem_of_mem_take hc))
      have hx := cvs_at (List.getElem?_eq_getElem hi)
      have hc := hl _ (List.getElem_mem hi)
      have i1 := inv.1
      have i3 := inv.2.2
      have lt : (l.take i).length = i := by rw [List.length_take]; omega
      rw [lt] at i1 i3
      have nk := i1.nk
      have tk := n_take (feed n (l.take i)).1 l[i] i1.n i1.s (by constructor <;> omega) hc.1 (by omega)
      have o2 := (n_takeOk _ l[i] i1 hc.1 hc.2).2.len
      rw [feed_succ hi]
      generalize l[i] = c at *
      generalize feed n (l.take i) = f at *
      obtain ⟨m1, ps⟩ := f
      generalize takN m1 c = t at *
      obtain ⟨m2, o⟩ := t
      obtain ⟨opk, ou, od, os, of⟩ := o
      simp only [nv, ov, cv] at *
      cases i with
      | zero =>
        have : ps = [] := by simpa using i3
        subst this
        simp -implicitDefEqProofs (maxSteps := 2000000) (disch := omega) only [euphroelaw27_talk.l2, tkE, nv, ov, cv, hx, tk, cvs_len, oD, h9, h10, h12, h13, h15, h16, h17, List.nil_append, go_sem, reduceIte, Nat.reduceAdd, Nat.reduceSub, Nat.reduceMul, Nat.reduceLeDiff, Nat.reduceLT, Nat.reduceEqDiff, Int.reduceToNat, Int.reduceLT, Int.reduceLE, Int.reduceEq, Int.reduceNe, Int.reduceAdd, Int.reduceSub, Int.reduceMul, Int.reduceNeg, Int.reduceBEq, Int.reduceBNe, reduceCtorEq, dreduceIte, oWS, oW8, oW16, oW32, oW64, oLtT, oLtF, oLeT, oLeF, oNLtT, oNLtF, oNLeT, oNLeF, oEqT, oEqF, oNEqT, oNEqF, oBeqT, oBeqF, oBneT, oBneF, Int.natCast_add, List.take_length]
      | succ i =>
        have tn : ((i : Int) + 1).toNat = i + 1 := by omega
        simp -implicitDefEqProofs (maxSteps := 2000000) (disch := omega) only [tn, euphroelaw27_talk.l2, tkE, nv, ov, cv, hx, tk, cvs_len, oD, h9, h10, h12, h13, h15, h16, h17, cvs_app, go_sem, reduceIte, Nat.reduceAdd, Nat.reduceSub, Nat.reduceMul, Nat.reduceLeDiff, Nat.reduceLT, Nat.reduceEqDiff, Int.reduceToNat, Int.reduceLT, Int.reduceLE, Int.reduceEq, Int.reduceNe, Int.reduceAdd, Int.reduceSub, Int.reduceMul, Int.reduceNeg, Int.reduceBEq, Int.reduceBNe, reduceCtorEq, dreduceIte, oWS, oW8, oW16, oW32, oW64, oLtT, oLtF, oLeT, oLeF, oNLtT, oNLtF, oNLeT, oNLeF, oEqT, oEqF, oNEqT, oNEqF, oBeqT, oBeqF, oBneT, oBneF, Int.natCast_add, List.take_length]) (by
      have hoo := oD_pl l.length (feed n l).2
      simp -implicitDefEqProofs (maxSteps := 2000000) (disch := omega) only [euphroelaw27_talk.l2, tkE, hoo, h9, h10, h12, h13, h15, h16, h17, hdp, go_sem, reduceIte, Nat.reduceAdd, Nat.reduceSub, Nat.reduceMul, Nat.reduceLeDiff, Nat.reduceLT, Nat.reduceEqDiff, Int.reduceToNat, Int.reduceLT, Int.reduceLE, Int.reduceEq, Int.reduceNe, Int.reduceAdd, Int.reduceSub, Int.reduceMul, Int.reduceNeg, Int.reduceBEq, Int.reduceBNe, reduceCtorEq, dreduceIte, oWS, oW8, oW16, oW32, oW64, oLtT, oLtF, oLeT, oLeF, oNLtT, oNLtF, oNLeT, oNLeF, oEqT, oEqF, oNEqT, oNEqF, oBeqT, oBeqF, oBneT, oBneF, Int.natCast_add, List.take_length]; rfl)
  have t0 : l.take 0 = [] := List.take_zero
  simp only [List.take_length, t0, feed0, z0, Int.cast_ofNat_Int, List.take_zero, List.map_nil, List.drop_zero, accN, b8_nil, Int.sub_zero, Int.add_zero, Int.zero_add, Nat.zero_add, Nat.sub_zero, List.nil_append, List.append_nil] at L
  exact L
def qD (b : Bool) (l : List Ctl) : D := if b = true then .nils 3 else .v (.slc 3 (cvs l))
theorem qD_pl (b : Bool) (l : List Ctl) : Pls (qD b l) := fun st n => by cases b <;> rfl
theorem oD_0 (l : List Ctl) : oD 0 l = .nils 3 := rfl
theorem qD_take (env ts : List D) (j : Nat) (b : Bool) (l : List Ctl) : takeD env ts (.t j) (qD b l) = (qD b l, env, ts) := by cases b <;> rfl
theorem qD_cp (b : Bool) (l : List Ctl) : cp (qD b l) = qD b l := by cases b <;> rfl
theorem qD_len (b : Bool) (l : List Ctl) (h : b = true → l = []) : lenOf (qD b l) = some l.length := by
  cases b with
  | true => rw [h rfl]; rfl
  | false => simp [qD, lenOf, cvs_len]
theorem oD_cp (k : Nat) (l : List Ctl) : cp (oD k l) = qD (k == 0) l := by cases k <;> rfl
theorem qD_or (b : Bool) (l : List Ctl) (h : b = true → l = []) : qD b l = .v (.slc 3 (cvs l)) ∨ l = [] := by
  cases b with
  | true => exact .inr (h rfl)
  | false => exact .inl rfl
section
variable (p q : Rl)
def bB : Nat → Bool
  | 0 => false
  | i + 1 => (tkR p q i).ta.length == 0
def bA : Nat → Bool
  | 0 => false
  | i + 1 => (tkR p q i).tb.length == 0
theorem bB_ok : ∀ i, bB p q i = true → (tkR p q i).tb = []
  | 0, h => by simp [bB] at h
  | i + 1, h => by
    have h' : (tkR p q i).ta = [] := by simpa [bB] using h
    show (feed (tkR p q i).a (tkR p q i).ta).2 = []
    rw [h']; rfl
theorem bA_ok : ∀ i, bA p q i = true → (tkR p q i).ta = []
  | 0, h => by simp [bA] at h
  | i + 1, h => by
    have h' : (tkR p q i).tb = [] := by simpa [bA] using h
    show (feed (tkR p q i).b (tkR p q i).tb).2 = []
    rw [h']; rfl
end
abbrev tlE (p q : Rl) (i : Nat) : List D := tkE (newN p) (newN q) (qD (bB p q i) (tkR p q i).tb) (qD (bA p q i) (tkR p q i).ta) (.v (.int .i64 (i : Nat))) .undef .undef .undef .undef .undef .undef .undef .undef
abbrev tlS (R4 R5 : Blk) (t : Tk) : St := [[.row [.v (nv t.a)], .row [.v (nv t.b)], zB, zB, R4, R5]]
theorem tl_round (p q : Rl) (hp : okR p) (hq : okR q) (R4 R5 : Blk) (i : Nat) (hi : i < 12) :
    rndE G [13, 14, 15, 16, 17, 18, 19, 20, 21, 22, 23, 24, 25, 26] euphroelaw27_talk.l0 (tlE p q i) (tlS R4 R5 (tkR p q i)) = some (.inl (tlE p q (i + 1), tlS R4 R5 (tkR p q (i + 1)))) := by
  have inv := invT p q hp hq i
  have h2 : 2 ^ i ≤ 2 ^ 12 := Nat.pow_le_pow_right (by decide) (by omega)
  have e12 : 2 ^ 12 = 4096 := rfl
  have b1 := bB_ok p q i
  have b2 := bA_ok p q i
  have ub : Pls .undef := fun st n => rfl
  have LB := tl_b (newN p) (newN q) (tkR p q i).a (tkR p q i).tb R4 R5 (qD (bB p q i) (tkR p q i).tb) (qD (bA p q i) (tkR p q i).ta) (.v (.int .i64 (i : Nat))) (.nils 3) (qD_pl _ _) (qD_pl _ _) (fun st n => rfl) (fun st n => rfl) .undef .undef .undef ub ub ub
    (qD (bB p q i) (tkR p q i).tb) (qD_or _ _ b1) (qD_pl _ _) (tkR p q i).b (2 ^ i) (by omega) inv.b inv.tb (by have := inv.lb; omega)
  have LA := tl_a (newN p) (newN q) (feed (tkR p q i).b (tkR p q i).tb).1 (tkR p q i).ta R4 R5 (qD (bB p q i) (tkR p q i).tb) (qD (bA p q i) (tkR p q i).ta) (.v (.int .i64 (i : Nat))) (oD (tkR p q i).tb.length (feed (tkR p q i).b (tkR p q i).tb).2) (qD_pl _ _) (qD_pl _ _) (fun st n => rfl) (oD_pl _ _)
    (qD (bB p q i) (tkR p q i).tb) (.v (.int .i64 ((tkR p q i).tb.length : Nat))) (.v (.int .i64 ((tkR p q i).tb.length : Nat))) (qD_pl _ _) (fun st n => rfl) (fun st n => rfl)
    (qD (bA p q i) (tkR p q i).ta) (qD_or _ _ b2) (qD_pl _ _) (tkR p q i).a (2 ^ i) (by omega) inv.a inv.ta (by have := inv.la; omega)
  have q1 := qD_len _ _ b1
  have q2 := qD_len _ _ b2
  have e1 : tkR p q (i + 1) = tkStep (tkR p q i) := rfl
  have e2 : bB p q (i + 1) = ((tkR p q i).ta.length == 0) := rfl
  have e3 : bA p q (i + 1) = ((tkR p q i).tb.length == 0) := rfl
  have p1 := qD_pl (bB p q i) (tkR p q i).tb
  have p2 := qD_pl (bA p q i) (tkR p q i).ta
  simp only [tlE, tlS, e1, e2, e3, tkStep]
  generalize bB p q i = u1 at *
  generalize bA p q i = u2 at *
  generalize tkR p q i = t at *
  obtain ⟨a, b, tb, ta⟩ := t
  simp only at *
  generalize feed a ta = fa at *
  generalize feed b tb = fb at *
  obtain ⟨a2, pa⟩ := fa
  obtain ⟨b2, pb⟩ := fb
  have o1 := oD_pl tb.length pb
  have o2 := oD_pl ta.length pa
  have w1 := qD_pl (tb.length == 0) pb
  have w2 := qD_pl (ta.length == 0) pa
  generalize newN p = np at *
  generalize newN q = nq at *
  simp only [tkE, nv, oD_0] at LB LA
  simp -implicitDefEqProofs (maxSteps := 2000000) (disch := omega) only [euphroelaw27_talk.l0, tkE, nv, LB, LA, q1, q2, qD_cp, oD_cp, p1, p2, o1, o2, w1, w2, qD_take, go_sem, reduceIte, Nat.reduceAdd, Nat.reduceSub, Nat.reduceMul, Nat.reduceLeDiff, Nat.reduceLT, Nat.reduceEqDiff, Int.reduceToNat, Int.reduceLT, Int.reduceLE, Int.reduceEq, Int.reduceNe, Int.reduceAdd, Int.reduceSub, Int.reduceMul, Int.reduceNeg, Int.reduceBEq, Int.reduceBNe, reduceCtorEq, dreduceIte, oWS, oW8, oW16, oW32, oW64, oLtT, oLtF, oLeT, oLeF, oNLtT, oNLtF, oNLeT, oNLeF, oEqT, oEqF, oNEqT, oNEqF, oBeqT, oBeqF, oBneT, oBneF, Int.natCast_add, List.take_length]
theorem n_talk (p q : Rl) (hp : okR p) (hq : okR q) : run G 8 [.v (nv (newN p)), .v (nv (newN q)), .v (.int .i64 12)] [] = some (.tup [.v (nv (tkR p q 12).a), .v (nv (tkR p q 12).b)], []) := by
  have n0 : ∀ r : Rl, okR r → okN (newN r) := fun r hr => ⟨by show In 0; constructor <;> decide, hr⟩
  have o1 := fun r hr => n_do (newN r) 2 (n0 r hr)
  have u1 : ∀ r : Rl, okR r → run G 17 [.v (nv ⟨1, 0, 0, 0, [], r, [], 0⟩), .v (.int .i64 0)] [] = some (.tup [.v (nv ⟨6, 9, 3, 1, askN r, r, [], 0⟩), .v (ov (ot [cf 1 1 (askN r)] false))], []) := fun r hr => by
    have f : okF (askN r) := by
      unfold askN
      split
      · exact optsI_f _
      · exact askW_f _
    have e := n_do ⟨1, 0, 0, 0, [], r, [], 0⟩ 0 ⟨by show In 0; constructor <;> decide, hr⟩
    rw [e_up, conf_f f 1 1 (by decide)] at e
    exact e
  have oa := o1 p hp
  have ob := o1 q hq
  rw [e_open] at oa ob
  have ua := u1 p hp
  have ub := u1 q hq
  have L := fun R4 R5 => lpFor (G := G) (kill := [13, 14, 15, 16, 17, 18, 19, 20, 21, 22, 23, 24, 25, 26]) (body := euphroelaw27_talk.l0) (tlE p q) (fun i => tlS R4 R5 (tkR p q i)) 12 (fun i hi => tl_round p q hp hq R4 R5 i hi) (by
    have p1 := qD_pl (bB p q 12) (tkR p q 12).tb
    have p2 := qD_pl (bA p q 12) (tkR p q 12).ta
    simp -implicitDefEqProofs (maxSteps := 2000000) (disch := omega) only [euphroelaw27_talk.l0, tlE, tkE, tlS, p1, p2, go_sem, reduceIte, Nat.reduceAdd, Nat.reduceSub, Nat.reduceMul, Nat.reduceLeDiff, Nat.reduceLT, Nat.reduceEqDiff, Int.reduceToNat, Int.reduceLT, Int.reduceLE, Int.reduceEq, Int.reduceNe, Int.reduceAdd, Int.reduceSub, Int.reduceMul, Int.reduceNeg, Int.reduceBEq, Int.reduceBNe, reduceCtorEq, dreduceIte, oWS, oW8, oW16, oW32, oW64, oLtT, oLtF, oLeT, oLeF, oNLtT, oNLtF, oNLeT, oNLeF, oEqT, oEqF, oNEqT, oNEqF, oBeqT, oBeqF, oBneT, oBneF, Int.natCast_add, List.take_length]; rfl)
  have q1 : qD (bB p q 0) (tkR p q 0).tb = .v (.slc 3 [cv (cf 1 1 (askN p))]) := rfl
  have q2 : qD (bA p q 0) (tkR p q 0).ta = .v (.slc 3 [cv (cf 1 1 (askN q))]) := rfl
  have s0 : (tkR p q 0).a = ⟨6, 9, 3, 1, askN p, p, [], 0⟩ := rfl
  have s1 : (tkR p q 0).b = ⟨6, 9, 3, 1, askN q, q, [], 0⟩ := rfl
  simp only [tlE, tlS, q1, q2, s0, s1] at L
  generalize (tkR p q 12) = t12 at *
  generalize bB p q 12 = u1 at *
  generalize bA p q 12 = u2 at *
  obtain ⟨a2, b2, tb2, ta2⟩ := t12
  generalize askN p = ap at *
  generalize askN q = aq at *
  simp only [newN, tkE, nv, ov, cv, cf, cvs_cons, cvs_nil, oes_nil] at *
  rw [xq_fn G rfl euphroelaw27_talk.g _ _ rfl]
  simp only [z0, Int.cast_ofNat_Int, List.take_zero, List.map_nil, List.drop_zero, accN, b8_nil, Int.sub_zero, Int.add_zero, Int.zero_add, Nat.zero_add, Nat.sub_zero, List.nil_append, List.append_nil] at L
  simp -implicitDefEqProofs (maxSteps := 2000000) (disch := omega) only [euphroelaw27_talk.s, nv, ov, cv, cvs_cons, cvs_nil, oes_nil, oa, ob, ua, ub, L, Ref.mk.injEq, go_sem, reduceIte, Nat.reduceAdd, Nat.reduceSub, Nat.reduceMul, Nat.reduceLeDiff, Nat.reduceLT, Nat.reduceEqDiff, Int.reduceToNat, Int.reduceLT, Int.reduceLE, Int.reduceEq, Int.reduceNe, Int.reduceAdd, Int.reduceSub, Int.reduceMul, Int.reduceNeg, Int.reduceBEq, Int.reduceBNe, reduceCtorEq, dreduceIte, oWS, oW8, oW16, oW32, oW64, oLtT, oLtF, oLeT, oLeF, oNLtT, oNLtF, oNLeT, oNLeF, oEqT, oEqF, oNEqT, oNEqF, oBeqT, oBeqF, oBneT, oBneF, Int.natCast_add, List.take_length]
end Go.Q
