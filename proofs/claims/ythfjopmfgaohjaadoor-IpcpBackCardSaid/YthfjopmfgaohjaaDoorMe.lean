/- Datagrams: the law IpcpBack. No condition. -/
import Derived.Test.YthfjopmfgaohjaaDoorMd
set_option linter.all false
set_option maxRecDepth 100000
namespace Go.Q
open SOp SCode
attribute [local congr] bind_c map_c

abbrev yG (x : Dg) : List Int := hdS x ++ x.dat
theorem rs_set : ∀ (h : List Int) (i : Nat) (v : Int) (hi : i < h.length), rs (h.set i v) = rs h + (v - h[i]) * (if i % 2 = 0 then 256 else 1)
  | [a], 0, v, _ => by simp [rs]; omega
  | a :: b :: r, 0, v, _ => by simp [rs]; omega
  | a :: b :: r, 1, v, _ => by simp [rs]; omega
  | a :: b :: r, i + 2, v, hi => by
    have ih := rs_set r i v (by simp at hi; omega)
    have e : ((i + 2) % 2 = 0) = (i % 2 = 0) := propext (by omega)
    simp only [List.set_cons_succ, rs, ih, List.getElem_cons_succ, e]
    omega
theorem hdS_eq (x : Dg) : ∃ l1 l0 s1 s0 a3 a2 a1 a0 d3 d2 d1 d0, hdS x = [69, 0, l1, l0, 0, 0, 0, 0, x.ttl, x.pr, s1, s0, a3, a2, a1, a0, d3, d2, d1, d0] ∧ big 2 (20 + x.dat.length) = [l1, l0] ∧ big 2 (sumR (hdL x)) = [s1, s0] ∧
    big 4 x.src = [a3, a2, a1, a0] ∧ big 4 x.dst = [d3, d2, d1, d0] := by
  refine ⟨_, _, _, _, _, _, _, _, _, _, _, _, ?_, rfl, rfl, rfl, rfl⟩
  unfold hdS
  generalize sumR (hdL x) = s
  simp [hdL, big]
theorem hdS_rs (x : Dg) (h : 0 ≤ sumR (hdL x) ∧ sumR (hdL x) ≤ 65535) : rs (hdS x) = rs (hdL x) + sumR (hdL x) := by
  unfold hdS
  generalize sumR (hdL x) = s at h
  simp [hdL, big, rs]
  omega
theorem hdS_sum (x : Dg) (hx : okG x) : sumR (hdS x) = 0 := by
  have h := sumR_rng (hdL_ok x hx)
  have h0 := (rs_rng (hdL x) (hdL_ok x hx)).1
  unfold sumR
  rw [hdS_rs x h]
  have h1 := fo_add (x := rs (hdL x)) (s := sumR (hdL x)) h0 h.1
  have h2 : fo (rs (hdL x)) + sumR (hdL x) = 65535 := by unfold sumR; omega
  rw [h2] at h1
  rw [← h1]; rfl
theorem hdS_ok (x : Dg) (hx : okG x) : okB (hdS x) := by
  intro y hy
  unfold hdS at hy
  simp only [List.mem_append] at hy
  rcases hy with (hy | hy) | hy
  · exact okB_take (hdL_ok x hx) 10 y hy
  · exact big_ok _ _ y hy
  · exact okB_drop (hdL_ok x hx) 12 y hy
theorem yG_take (x : Dg) (r : List Int) : (yG x ++ r).take 20 = hdS x := by
  rw [List.append_assoc, List.take_append_of_le_length (by rw [hdS_len]; exact Nat.le_refl _), List.take_of_length_le (by rw [hdS_len]; exact Nat.le_refl _)]
theorem y_prs (x : Dg) (hx : okG x) (hl : x.dat.length ≤ 1480) (r : List Int) : prsG (yG x ++ r) = (x, 0) := by
  have hs := hdS_sum x hx
  have ht := yG_take x r
  obtain ⟨h1, h2, h3, h4, h5⟩ := hx
  obtain ⟨l1, l0, s1, s0, a3, a2, a1, a0, d3, d2, d1, d0, e, e1, e2, e3, e4⟩ := hdS_eq x
  have n1 := num_big 2 (20 + x.dat.length) (by omega) (by show _ < (65536 : Int); omega)
  have n2 := num_big 4 x.src (by omega) (by show _ < (4294967296 : Int); omega)
  have n3 := num_big 4 x.dst (by omega) (by show _ < (4294967296 : Int); omega)
  rw [e1] at n1
  rw [e3] at n2
  rw [e4] at n3
  have c1 : lenG (yG x ++ r) = 20 + x.dat.length := by
    rw [← n1]; unfold lenG cut yG; rw [e]; rfl
  have c2 : num (cut (yG x ++ r) 12 16) = x.src := by
    rw [← n2]; unfold cut yG; rw [e]; rfl
  have c3 : num (cut (yG x ++ r) 16 20) = x.dst := by
    rw [← n3]; unfold cut yG; rw [e]; rfl
  have c4 : nth (yG x ++ r) 0 = 69 := by unfold nth yG; rw [e]; rfl
  have c5 : nth (yG x ++ r) 8 = x.ttl := by unfold nth yG; rw [e]; rfl
  have c6 : nth (yG x ++ r) 9 = x.pr := by unfold nth yG; rw [e]; rfl
  have c7 : cut (yG x ++ r) 20 (lenG (yG x ++ r)).toNat = x.dat := by
    rw [c1]
    have : (20 + (x.dat.length : Int)).toNat = 20 + x.dat.length := by omega
    rw [this]
    unfold cut yG
    rw [List.take_append_of_le_length (by simp [hdS_len]), List.take_of_length_le (by simp [hdS_len]), List.drop_append_of_le_length (by simp [hdS_len]), List.drop_of_length_le (by simp [hdS_len])]
    rfl
  have hlen : (yG x ++ r).length = 20 + x.dat.length + r.length := by simp [hdS_len]; omega
  have hb : badG (yG x ++ r) = 0 := by
    unfold badG
    rw [if_neg (by omega), if_neg (by rw [c4]; decide), c1, if_neg (by omega), if_neg (by omega), if_neg (by omega), ht, hs, if_neg (by decide)]
  unfold prsG
  rw [if_pos hb]
  unfold gotG
  rw [c2, c3, c5, c6, c7]
def xr (c p : Int) : Int := IntKind.u8.wrap (BitVec.ofInt 8 c ^^^ BitVec.ofInt 8 p).toNat
theorem xo_8 (c p : Int) : opBin .xor (.v (.int .u8 c)) (.v (.int .u8 p)) = some (.v (.int .u8 (xr c p))) := rfl
attribute [local go_sem high] xo_8
def turn (y : List Int) (k : Nat) : List Int := y.set (k / 8) (xr (nth y (k / 8)) (2 ^ (k % 8)))
theorem xor_8 (c : Int) (j : Nat) (h0 : 0 ≤ c) (h : c ≤ 255) (hj : j < 8) : (xr c (2 ^ j) = c + 2 ^ j ∨ xr c (2 ^ j) = c - 2 ^ j) ∧
    0 ≤ xr c (2 ^ j) ∧ xr c (2 ^ j) ≤ 255 := by
  obtain ⟨a, rfl⟩ := Int.eq_ofNat_of_zero_le h0
  have key : ∀ j : Nat, j < 8 → ∀ a : Nat, a < 256 → (xr (a : Int) (2 ^ j) = (a : Int) + 2 ^ j ∨ xr (a : Int) (2 ^ j) = (a : Int) - 2 ^ j) ∧
    0 ≤ xr (a : Int) (2 ^ j) ∧ xr (a : Int) (2 ^ j) ≤ 255 := by decide +kernel
  exact key j hj a (by omega)
theorem fo_top {n : Int} (h : 0 ≤ n) : fo n = 65535 ↔ 0 < n ∧ n % 65535 = 0 := by
  unfold fo
  split
  · omega
  · constructor <;> intro <;> omega
theorem turn_bad (x : Dg) (hx : okG x) (k : Nat) (hk : k < 160) : badG (turn (yG x) k) ≠ 0 := by
  have hs := hdS_sum x hx
  have ho := hdS_ok x hx
  have hl := hdS_len x
  have hi : k / 8 < 20 := by omega
  have hne : nth (yG x) (k / 8) = (hdS x)[k / 8]'(by omega) := by
    unfold nth List.getD
    rw [List.getElem?_append_left (by omega), List.getElem?_eq_getElem (by omega)]; rfl
  have hc := ho _ (List.getElem_mem (l := hdS x) (n := k / 8) (by omega))
  obtain ⟨hx1, hx2⟩ := xor_8 ((hdS x)[k / 8]'(by omega)) (k % 8) hc.1 hc.2 (by omega)
  have ht : (turn (yG x) k).take 20 = (hdS x).set (k / 8) (xr ((hdS x)[k / 8]'(by omega)) (2 ^ (k % 8))) := by
    unfold turn
    rw [hne, List.set_append_left _ _ (by omega), List.take_append_of_le_length (by simp [hdS_len]), List.take_of_length_le (by simp [hdS_len])]
  have hr := rs_set (hdS x) (k / 8) (xr ((hdS x)[k / 8]'(by omega)) (2 ^ (k % 8))) (by omega)
  generalize hv : (xr ((hdS x)[k / 8]'(by omega)) (2 ^ (k % 8))) = v at *
  have hov : okB ((hdS x).set (k / 8) v) := fun y hy => by
    rcases List.mem_or_eq_of_mem_set hy with h | h
    · exact ho y h
    · rw [h]; exact hx2
  have hp := (rs_rng _ hov).1
  have hq := (rs_rng _ ho).1
  have h65 : fo (rs (hdS x)) = 65535 := by unfold sumR at hs; omega
  have htop := (fo_top hq).1 h65
  have hj : ∃ j : Nat, j < 16 ∧ (rs ((hdS x).set (k / 8) v) = rs (hdS x) + 2 ^ j ∨ rs ((hdS x).set (k / 8) v) = rs (hdS x) - 2 ^ j) := by
    by_cases he : k / 8 % 2 = 0
    · refine ⟨k % 8 + 8, by omega, ?_⟩
      rw [if_pos he] at hr
      have e : (2 : Int) ^ (k % 8 + 8) = 2 ^ (k % 8) * 256 := by rw [Int.pow_add]; rfl
      rw [e]
      generalize (2 : Int) ^ (k % 8) = p at *
      rcases hx1 with h | h
      · left; rw [hr, h]; omega
      · right; rw [hr, h]; omega
    · refine ⟨k % 8, by omega, ?_⟩
      rw [if_neg he] at hr
      generalize (2 : Int) ^ (k % 8) = p at *
      rcases hx1 with h | h
      · left; rw [hr, h]; omega
      · right; rw [hr, h]; omega
  have hnz : sumR ((hdS x).set (k / 8) v) ≠ 0 := fun h0 => by
    have h1 : fo (rs ((hdS x).set (k / 8) v)) = 65535 := by unfold sumR at h0; omega
    have h2 := (fo_top hp).1 h1
    obtain ⟨j, hj, h3⟩ := hj
    have key : ∀ j : Nat, j < 16 → (0 : Int) < 2 ^ j ∧ (2 : Int) ^ j < 65535 := by decide
    have h4 := key j hj
    rcases h3 with h3 | h3 <;> rw [h3] at h2 <;> omega
  unfold badG
  rw [ht]
  split
  · omega
  · split
    · omega
    · split
      · omega
      · split
        · omega
        · split
          · omega
          · omega
theorem turn_ok (x : Dg) (hx : okG x) (k : Nat) (hk : k < 160) : okB (turn (yG x) k) := by
  have hy : okB (yG x) := okB_app (hdS_ok x hx) hx.2.2.2.2
  have hc := nth_ok hy (k / 8)
  have h8 := (xor_8 (nth (yG x) (k / 8)) (k % 8) hc.1 hc.2 (by omega)).2
  intro y hm
  rcases List.mem_or_eq_of_mem_set hm with h | h
  · exact hy y h
  · rw [h]; exact h8
theorem shl_1 (j : Nat) (hj : j < 8) : opBin .shl (.v (.int .u8 1)) (.v (.int .i64 (j : Int))) = some (.v (.int .u8 (2 ^ j))) := by
  have key : ∀ j : Nat, j < 8 → opBin .shl (.v (.int .u8 1)) (.v (.int .i64 (j : Int))) = some (.v (.int .u8 (2 ^ j))) := by
    intro j hj
    match j, hj with
    | 0, _ => rfl
    | 1, _ => rfl
    | 2, _ => rfl
    | 3, _ => rfl
    | 4, _ => rfl
    | 5, _ => rfl
    | 6, _ => rfl
    | 7, _ => rfl
  exact key j hj
theorem ipcpBack (x : Dg) (r : List Int) (n : Int) (hx : okG x) (hr : okB r) (hn : x.dat.length ≤ 4611686018427387904) (hm : r.length ≤ 4611686018427387904) (h0 : 0 ≤ n ∧ n ≤ 65535) :
    run G 4 [.v (dgV x), .v (.slc 1 (b8 r)), .v (.int .u16 n)] [] = some (.v (.bool true), []) := by
  rw [xq_fn G rfl euphroelaw32_IpcpBack.g _ _ rfl]
  have A := m_alive
  by_cases c1 : 1480 < x.dat.length
  · simp -implicitDefEqProofs (maxSteps := 2000000) (disch := omega) only [euphroelaw32_IpcpBack.s, b8_len, c1, A, go_sem, reduceIte, Nat.reduceAdd, Nat.reduceSub, Nat.reduceMul, Nat.reduceLeDiff, Nat.reduceLT, Nat.reduceEqDiff, Int.reduceToNat, Int.reduceLT, Int.reduceLE, Int.reduceEq, Int.reduceNe, Int.reduceAdd, Int.reduceSub, Int.reduceMul, Int.reduceNeg, Int.reduceBEq, Int.reduceBNe, reduceCtorEq, dreduceIte, oWS, oW8, oW16, oW32, oW64, oLtT, oLtF, oLeT, oLeF, oNLtT, oNLtF, oNLeT, oNLeF, oEqT, oEqF, oNEqT, oNEqF, oBeqT, oBeqF, oBneT, oBneF, Int.natCast_add, List.take_length]
  · by_cases c2 : 200 < r.length
    · simp -implicitDefEqProofs (maxSteps := 2000000) (disch := omega) only [euphroelaw32_IpcpBack.s, b8_len, c1, c2, A, go_sem, reduceIte, Nat.reduceAdd, Nat.reduceSub, Nat.reduceMul, Nat.reduceLeDiff, Nat.reduceLT, Nat.reduceEqDiff, Int.reduceToNat, Int.reduceLT, Int.reduceLE, Int.reduceEq, Int.reduceNe, Int.reduceAdd, Int.reduceSub, Int.reduceMul, Int.reduceNeg, Int.reduceBEq, Int.reduceBNe, reduceCtorEq, dreduceIte, oWS, oW8, oW16, oW32, oW64, oLtT, oLtF, oLeT, oLeF, oNLtT, oNLtF, oNLeT, oNLeF, oEqT, oEqF, oNEqT, oNEqF, oBeqT, oBeqF, oBneT, oBneF, Int.natCast_add, List.take_length]
    · obtain ⟨k, hk, hkn⟩ : ∃ k : Nat, k < 160 ∧ n % 160 = k := ⟨(n % 160).toNat, by omega, by omega⟩
      have T := d_theirs x
      have L1 := d_Lay x hx (by omega)
      have e1 : layG x = .v (.slc 1 (b8 (yG x))) := by unfold layG; rw [if_neg c1]
      have e2 : layE x = 0 := by unfold layE; rw [if_neg c1]
      rw [e1, e2] at L1
      have yl : (yG x).length = 20 + x.dat.length := by simp [hdS_len]
      have yo : okB (yG x) := okB_app (hdS_ok x hx) hx.2.2.2.2
      have P1 := d_Parse (yG x ++ r) (okB_app yo hr) (by rw [List.length_append, yl]; omega)
      rw [y_prs x hx (by omega) r] at P1
      have S1 := p_Sum (hdS x) (hdS_ok x hx) (by rw [hdS_len]; decide)
      rw [hdS_sum x hx] at S1
      have E1 := d_Same x x hx hx
      rw [sameG_self] at E1
      have t20 : (b8 (yG x)).take 20 = b8 (hdS x) := by
        have := yG_take x []
        rw [List.append_nil] at this
        rw [b8_take, this]
      have P2 := d_Parse (turn (yG x) k) (turn_ok x hx k hk) (by simp [turn, hdS_len]; omega)
      have B2 := turn_bad x hx k hk
      have E2 : (prsG (turn (yG x) k)).2 = badG (turn (yG x) k) := by unfold prsG; rw [if_neg B2]
      rw [E2] at P2
      have hne : (badG (turn (yG x) k) != 0) = true := bne_ne B2
      have hy : b8 (yG x) ≠ [] := fun hh => by
        have := congrArg List.length hh
        rw [b8_len, yl] at this; simp at this
      have AO := fun st z => appO_nil hy 1 1 st z
      have hM := hmax
      have AP : opApp 1 1 (b8 (yG x)) (.nils 1) = some (.lin 1 (b8 (yG x))) := by simp only [opApp]; rw [if_pos (by rw [b8_len]; omega)]
      have AP2 : opApp 1 1 (b8 r) (.lin 1 (b8 (yG x))) = some (.lin 1 (b8 (yG x ++ r))) := by simp only [opApp]; rw [if_pos ⟨trivial, by rw [b8_len, b8_len]; omega⟩, b8_app]
      have tm : n.tmod 160 = k := by rw [Int.tmod_eq_emod_of_nonneg h0.1, hkn]
      have w1 : IntKind.i64.wrap n = n := wrapS (by omega)
      have td8 : ((k : Nat) : Int).tdiv 8 = ((k / 8 : Nat) : Int) := rfl
      have tm8 : ((k : Nat) : Int).tmod 8 = ((k % 8 : Nat) : Int) := rfl
      have sh := shl_1 (k % 8) (by omega)
      have ri : ((b8 (yG x)).map D.v)[k / 8]? = some (.v (.int .u8 (nth (yG x) (k / 8)))) := b8_rat (by unfold nth List.getD; rw [List.getElem?_eq_getElem (by omega)]; rfl)
      have rset := b8_rset (yG x) (k / 8) (xr (nth (yG x) (k / 8)) (2 ^ (k % 8)))
      have hT : (yG x).set (k / 8) (xr (nth (yG x) (k / 8)) (2 ^ (k % 8))) = turn (yG x) k := rfl
      rw [hT] at rset
      have R : toVL (List.take (20 + x.dat.length) ((b8 (turn (yG x) k)).map D.v)) = some (b8 (turn (yG x) k)) := by rw [List.take_of_length_le (by simp [b8, turn, hdS_len]), toVL_b8]
      have tl : (turn (yG x) k).length = 20 + x.dat.length := by simp [turn, hdS_len]
      have k8 : k / 8 < 20 := by omega
      have bits : IntKind.u8.bits = 8 := rfl
      generalize yG x = y at *
      simp -implicitDefEqProofs (maxSteps := 2000000) (disch := omega) only [euphroelaw32_IpcpBack.s, b8_len, c1, c2, A, T, L1, P1, S1, E1, t20, AO, AP, AP2, tm, w1, td8, tm8, sh, ri, rset, R, P2, hne, yl, tl, b8r, bits, orUndef, go_sem, reduceIte, Nat.reduceAdd, Nat.reduceSub, Nat.reduceMul, Nat.reduceLeDiff, Nat.reduceLT, Nat.reduceEqDiff, Int.reduceToNat, Int.reduceLT, Int.reduceLE, Int.reduceEq, Int.reduceNe, Int.reduceAdd, Int.reduceSub, Int.reduceMul, Int.reduceNeg, Int.reduceBEq, Int.reduceBNe, reduceCtorEq, dreduceIte, oWS, oW8, oW16, oW32, oW64, oLtT, oLtF, oLeT, oLeF, oNLtT, oNLtF, oNLeT, oNLeF, oEqT, oEqF, oNEqT, oNEqF, oBeqT, oBeqF, oBneT, oBneF, Int.natCast_add, List.take_length]
end Go.Q
