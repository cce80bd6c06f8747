/- Numbers as bytes, bytes joined: what octs and its reference compute. No condition. -/
import Derived.Test.YthfjopmfgaohjaaDoorLo
set_option linter.all false
set_option maxRecDepth 100000
namespace Go.Q
open SOp SCode
attribute [local congr] bind_c map_c

def big : Nat → Int → List Int
  | 0, _ => []
  | w + 1, n => big w (n / 256) ++ [n % 256]
def num (l : List Int) : Int := l.foldl (fun n c => n * 256 + c) 0
theorem num_nil : num [] = 0 := rfl
theorem num_app (l : List Int) (c : Int) : num (l ++ [c]) = num l * 256 + c := by simp [num]
theorem big_len : ∀ (w : Nat) (n : Int), (big w n).length = w
  | 0, _ => rfl
  | w + 1, n => by simp [big, big_len w]
theorem big_ok : ∀ (w : Nat) (n : Int), okB (big w n)
  | 0, _ => fun x h => by cases h
  | w + 1, n => fun x h => by
    rcases List.mem_append.1 h with h | h
    · exact big_ok w _ x h
    · rw [List.mem_singleton.1 h]; omega
theorem num_big : ∀ (w : Nat) (n : Int), 0 ≤ n → n < 256 ^ w → num (big w n) = n
  | 0, n, h0, h1 => by simp at h1; simp [big, num]; omega
  | w + 1, n, h0, h1 => by
    rw [big, num_app, num_big w (n / 256) (by omega) (by rw [Int.pow_succ] at h1; omega)]
    omega
theorem num_rng_r : ∀ (r : List Int), okB r.reverse → 0 ≤ num r.reverse ∧ num r.reverse < 256 ^ r.length
  | [], _ => by simp [num]
  | c :: r, h => by
    rw [List.reverse_cons] at h ⊢
    obtain ⟨h1, h2⟩ := num_rng_r r fun x hx => h x (List.mem_append.2 (.inl hx))
    have hc := h c (List.mem_append.2 (.inr (List.mem_singleton.2 rfl)))
    rw [num_app, List.length_cons, Int.pow_succ]
    omega
theorem num_rng (l : List Int) (h : okB l) : 0 ≤ num l ∧ num l < 256 ^ l.length := by
  have := num_rng_r l.reverse (by rwa [List.reverse_reverse])
  rwa [List.reverse_reverse, List.length_reverse] at this
theorem wrap_u64' (x : Int) : IntKind.u64.wrap x = x % 18446744073709551616 := by simp [IntKind.wrap, IntKind.signed, IntKind.bits]
theorem wrap64 {x : Int} (h : 0 ≤ x ∧ x ≤ 18446744073709551615) : IntKind.u64.wrap x = x := by rw [wrap_u64']; omega
theorem wrapU8 (x : Int) : IntKind.u8.wrap x = x % 256 := by simp [IntKind.wrap, IntKind.signed, IntKind.bits]
theorem tmod256 {n : Int} (h : 0 ≤ n) : n.tmod 256 = n % 256 := Int.tmod_eq_emod_of_nonneg h
theorem tdiv256 {n : Int} (h : 0 ≤ n) : n.tdiv 256 = n / 256 := Int.tdiv_eq_ediv_of_nonneg h
theorem b8r (l : List Int) : ((b8 l).map D.v).length = l.length := by simp [b8]
theorem b8_rat {l : List Int} {i : Nat} {x : Int} (h : l[i]? = some x) : ((b8 l).map D.v)[i]? = some (.v (.int .u8 x)) := by simp [b8, h]
theorem b8_rset (l : List Int) (i : Nat) (x : Int) : ((b8 l).map D.v).set i (.v (.int .u8 x)) = (b8 (l.set i x)).map D.v := by simp [b8, List.map_set]
theorem toVL_b8 : ∀ (l : List Int), toVL ((b8 l).map .v) = some (b8 l)
  | [] => rfl
  | x :: l => by
    have := toVL_b8 l
    simp only [b8] at this
    simp only [b8, List.map_cons, toVL, toV, Option.bind_some, this, Option.map_some]
theorem b8_row (l : List Int) (n : Nat) (h : n = l.length) : rowV 1 0 n (some (.row ((b8 l).map D.v))) = some (.slc 1 (b8 l)) := by
  subst h
  have e : ((b8 l).map D.v).take l.length = (b8 l).map D.v := List.take_of_length_le (by simp [b8])
  simp only [rowV, Nat.zero_add]
  rw [if_pos (by simp [b8]), List.drop_zero, e, toVL_b8]; rfl

def bigP (w k : Nat) (n : Int) : List Int := List.replicate (w - k) 0 ++ big k n
theorem big_cons : ∀ (k : Nat) (n : Int), big (k + 1) n = (n / 256 ^ k % 256) :: big k n
  | 0, n => by simp [big]
  | k + 1, n => by
    rw [big, big_cons k (n / 256), big, Int.ediv_ediv_of_nonneg (by omega), ← Int.pow_succ']
    rfl
theorem bigP_set {w k : Nat} (h : k < w) (n : Int) : (bigP w k n).set (w - 1 - k) (n / 256 ^ k % 256) = bigP w (k + 1) n := by
  have e : w - k = (w - (k + 1)) + 1 := by omega
  rw [bigP, bigP, e, List.replicate_succ', List.append_assoc, List.set_append_right _ _ (by simp; omega), big_cons]
  simp only [List.length_replicate]
  rw [show w - 1 - k - (w - (k + 1)) = 0 by omega]
  rfl
theorem bigP_len {w k : Nat} (h : k ≤ w) (n : Int) : (bigP w k n).length = w := by simp [bigP, big_len]; omega
abbrev bgE (n : Int) (w : Nat) (k : Nat) : List D := [.v (.int .u64 (n / 256 ^ k)), .v (.int .i64 w), .nils 1, .own ⟨0, 0⟩ 1 0 w true, .v (.int .i64 (w - 1 - k))]
theorem big_loop (n : Int) (h0 : 0 ≤ n) (hn : n ≤ 18446744073709551615) (w : Nat) (hw : w ≤ 8) : ∀ (m k : Nat), k + m = w →
    ex G (.loop [] euphroeref01_Big.l0) (bgE n w k) [[.row ((b8 (bigP w k n)).map .v)]] = some (.exit 0, bgE n w w, [[.row ((b8 (big w n)).map .v)]])
  | 0, k, hk => by
    have : k = w := by omega
    subst this
    have q : ¬ (0 : Int) ≤ (k : Int) - 1 - k := by omega
    have e : bigP k k n = big k n := by simp [bigP]
    rw [xq_loop, e]
    simp -implicitDefEqProofs only [euphroeref01_Big.l0, go_sem, reduceIte, Nat.reduceAdd, Nat.reduceSub, Nat.reduceMul, Nat.reduceLeDiff, Nat.reduceLT, Nat.reduceEqDiff, Int.reduceToNat, Int.reduceLT, Int.reduceLE, Int.reduceEq, Int.reduceNe, Int.reduceAdd, Int.reduceSub, Int.reduceMul, Int.reduceNeg, Int.reduceBEq, Int.reduceBNe, reduceCtorEq, dreduceIte, q, lpD]
  | m + 1, k, hk => by
    have hp : (0 : Int) ≤ n / 256 ^ k := Int.ediv_nonneg h0 (Int.pow_nonneg (by decide))
    have hle : n / 256 ^ k ≤ n := Int.ediv_le_self _ h0
    have q : (0 : Int) ≤ (w : Int) - 1 - k := by omega
    have q2 : (w : Int) - 1 - k < (w : Int) := by omega
    have q3 : ((w : Int) - 1 - k).toNat = w - 1 - k := by omega
    have w1 := tmod256 hp
    have w2 : IntKind.u8.wrap (n / 256 ^ k % 256) = n / 256 ^ k % 256 := wrap8 (by omega)
    have w3 : IntKind.u64.wrap ((n / 256 ^ k).tdiv 256) = n / 256 ^ (k + 1) := by
      rw [tdiv256 hp, Int.ediv_ediv_of_nonneg (Int.pow_nonneg (by decide)), show (256 : Int) ^ k * 256 = 256 ^ (k + 1) from (Int.pow_succ 256 k).symm, wrap64]
      have h1 : (0 : Int) ≤ n / 256 ^ (k + 1) := Int.ediv_nonneg h0 (Int.pow_nonneg (by decide))
      have h2 : n / 256 ^ (k + 1) ≤ n := Int.ediv_le_self _ h0
      omega
    have w4 : IntKind.i64.wrap ((w : Int) - 1 - k - 1) = (w : Int) - 1 - ((k + 1 : Nat) : Int) := by rw [wrapS (by omega)]; omega
    have hx : ((b8 (bigP w k n)).map D.v)[w - 1 - k]? = some (.v (.int .u8 ((bigP w k n)[w - 1 - k]'(by rw [bigP_len (by omega)]; omega)))) := b8_rat (List.getElem?_eq_getElem _)
    have hs := b8_rset (bigP w k n) (w - 1 - k) (n / 256 ^ k % 256)
    rw [bigP_set (by omega)] at hs
    have ih := big_loop n h0 hn w hw m (k + 1) (by omega)
    rw [xq_loop, ← ih]
    simp -implicitDefEqProofs only [euphroeref01_Big.l0, go_sem, reduceIte, Nat.reduceAdd, Nat.reduceSub, Nat.reduceMul, Nat.reduceLeDiff, Nat.reduceLT, Nat.reduceEqDiff, Int.reduceToNat, Int.reduceLT, Int.reduceLE, Int.reduceEq, Int.reduceNe, Int.reduceAdd, Int.reduceSub, Int.reduceMul, Int.reduceNeg, Int.reduceBEq, Int.reduceBNe, reduceCtorEq, dreduceIte, q, q2, q3, w1, w2, w3, w4, hx, hs, lpD]
theorem big87 (n : Int) (h0 : 0 ≤ n) (hn : n ≤ 18446744073709551615) (w : Nat) (hw : w ≤ 8) : run G 21 [.v (.int .u64 n), .v (.int .i64 w)] [] = some (.lin 1 (b8 (big w n)), []) := by
  rw [xq_fn G rfl euphroeref01_Big.g _ _ rfl]
  have L := big_loop n h0 hn w hw w 0 (by omega)
  have e1 : n / 256 ^ 0 = n := by simp
  have e2 : (b8 (bigP w 0 n)).map D.v = List.replicate w (.v (.int .u8 0)) := by simp [bigP, big, b8]
  rw [e2] at L
  unfold bgE at L
  rw [e1] at L
  have w1 : IntKind.i64.wrap ((w : Int) - 1) = (w : Int) - 1 - ((0 : Nat) : Int) := by rw [wrapS (by omega)]; omega
  have hM := hmax
  have hm : makeD [.v (.int .u64 n), .v (.int .i64 w), .nils 1, .undef, .undef] [.v (.int .i64 w)] [[]] 1 1 (.v (.int .u8 0)) w w = some (.own ⟨0, 0⟩ 1 0 w true, [.v (.int .u64 n), .v (.int .i64 w), .nils 1, .undef, .undef], [.v (.int .i64 w)], [[.row (List.replicate w (.v (.int .u8 0)))]]) := by
    unfold makeD
    rw [if_pos ⟨by omega, rfl, by omega, rfl⟩]
    simp [addB]
  have hr := b8_row (big w n) w (big_len w n).symm
  simp only [z0] at L w1
  simp -implicitDefEqProofs only [euphroeref01_Big.s, go_sem, reduceIte, Nat.reduceAdd, Nat.reduceSub, Nat.reduceMul, Nat.reduceLeDiff, Nat.reduceLT, Nat.reduceEqDiff, Int.reduceToNat, Int.reduceLT, Int.reduceLE, Int.reduceEq, Int.reduceNe, Int.reduceAdd, Int.reduceSub, Int.reduceMul, Int.reduceNeg, Int.reduceBEq, Int.reduceBNe, reduceCtorEq, dreduceIte, hm, w1, L, hr, b8r, big_len]

theorem pow_le8 {k : Nat} (h : k ≤ 8) : (256 : Int) ^ k ≤ 18446744073709551616 := by
  have h1 : 256 ^ k ≤ 256 ^ 8 := Nat.pow_le_pow_right (by decide) h
  have h2 : ((256 ^ k : Nat) : Int) ≤ ((256 ^ 8 : Nat) : Int) := by exact_mod_cast h1
  rw [Int.natCast_pow] at h2
  exact h2
theorem num_le (l : List Int) (h : okB l) (hl : l.length ≤ 8) : 0 ≤ num l ∧ num l ≤ 18446744073709551615 := by
  have h1 := num_rng l h
  have h2 := pow_le8 hl
  omega
theorem num_take {l : List Int} {i : Nat} (h : i < l.length) : num (l.take (i + 1)) = num (l.take i) * 256 + l[i] := by rw [take_succ h, num_app]
theorem okB_drop {l : List Int} (h : okB l) (i : Nat) : okB (l.drop i) := fun x hx => h x (List.mem_of_mem_drop hx)
theorem okB_take {l : List Int} (h : okB l) (i : Nat) : okB (l.take i) := fun x hx => h x (List.mem_of_mem_take hx)
abbrev nmE (l : List Int) (i : Nat) : List D := [.v (.slc 1 (b8 l)), .v (.int .u64 0), .v (.int .u64 (num (l.take i))), .v (.int .i64 i)]
theorem nm_step (l : List Int) (hb : okB l) (hl : l.length ≤ 8) (i : Nat) (hi : i < l.length) :
    ex G (.loop [] euphroeref01_Num.l0) (nmE l i) [[]] = ex G (.loop [] euphroeref01_Num.l0) (nmE l (i + 1)) [[]] := by
  have q1 : (i : Int) < ((l.length : Nat) : Int) := by omega
  have q0 : (0 : Int) ≤ i := by omega
  have w := inc (i := i) (by have : M = 100000 := rfl; omega)
  have hx := b8_at (List.getElem?_eq_getElem hi)
  have hc := hb l[i] (List.getElem_mem _)
  have hn := num_le (l.take (i + 1)) (okB_take hb _) (by rw [List.length_take]; omega)
  have hn0 := num_le (l.take i) (okB_take hb _) (by rw [List.length_take]; omega)
  rw [num_take hi] at hn
  have w1 : IntKind.u64.wrap l[i] = l[i] := wrap64 (by omega)
  have w2 : IntKind.u64.wrap (num (l.take i) * 256) = num (l.take i) * 256 := wrap64 (by omega)
  have w3 : IntKind.u64.wrap (num (l.take i) * 256 + l[i]) = num (l.take (i + 1)) := by rw [num_take hi, wrap64 (by omega)]
  rw [xq_loop]
  simp -implicitDefEqProofs only [euphroeref01_Num.l0, go_sem, reduceIte, Nat.reduceAdd, Nat.reduceSub, Nat.reduceMul, Nat.reduceLeDiff, Nat.reduceLT, Nat.reduceEqDiff, Int.reduceToNat, Int.reduceLT, Int.reduceLE, Int.reduceEq, Int.reduceNe, Int.reduceAdd, Int.reduceSub, Int.reduceMul, Int.reduceNeg, Int.reduceBEq, Int.reduceBNe, reduceCtorEq, dreduceIte, b8_len, q0, q1, Int.toNat_natCast, hx, w, w1, w2, w3, lpD]
theorem num90 (l : List Int) (hb : okB l) (hl : l.length ≤ 8) : run G 24 [.v (.slc 1 (b8 l))] [] = some (.v (.int .u64 (num l)), []) := by
  rw [xq_fn G rfl euphroeref01_Num.g _ _ rfl]
  have h1 : ¬ ((l.length : Nat) : Int) < ((l.length : Nat) : Int) := by omega
  have e : ex G (.loop [] euphroeref01_Num.l0) (nmE l l.length) [[]] = some (.exit 0, nmE l l.length, [[]]) := by
    rw [xq_loop]
    simp -implicitDefEqProofs only [euphroeref01_Num.l0, go_sem, reduceIte, Nat.reduceAdd, Nat.reduceSub, Nat.reduceMul, Nat.reduceLeDiff, Nat.reduceLT, Nat.reduceEqDiff, Int.reduceToNat, Int.reduceLT, Int.reduceLE, Int.reduceEq, Int.reduceNe, Int.reduceAdd, Int.reduceSub, Int.reduceMul, Int.reduceNeg, Int.reduceBEq, Int.reduceBNe, reduceCtorEq, dreduceIte, b8_len, h1, lpD]
  have L : ex G (.loop [] euphroeref01_Num.l0) [.v (.slc 1 (b8 l)), .v (.int .u64 0), .v (.int .u64 0), .v (.int .i64 0)] [[]] = _ := (lp0 (nmE l) l.length (fun i hi => nm_step l hb hl i hi)).trans e
  simp -implicitDefEqProofs only [euphroeref01_Num.s, go_sem, reduceIte, Nat.reduceAdd, Nat.reduceSub, Nat.reduceMul, Nat.reduceLeDiff, Nat.reduceLT, Nat.reduceEqDiff, Int.reduceToNat, Int.reduceLT, Int.reduceLE, Int.reduceEq, Int.reduceNe, Int.reduceAdd, Int.reduceSub, Int.reduceMul, Int.reduceNeg, Int.reduceBEq, Int.reduceBNe, reduceCtorEq, dreduceIte, L, List.take_length]
theorem or_op {x c : Int} (h0 : 0 ≤ x ∧ x * 256 + 255 ≤ 18446744073709551615 ∧ 0 ≤ c ∧ c ≤ 255) : opBin .or (.v (.int .u64 (x * 256))) (.v (.int .u64 c)) = some (.v (.int .u64 (x * 256 + c))) := by
  obtain ⟨h0, h1, c0, c1⟩ := h0
  obtain ⟨a, rfl⟩ := Int.eq_ofNat_of_zero_le h0
  obtain ⟨b, rfl⟩ := Int.eq_ofNat_of_zero_le c0
  have e1 : (BitVec.ofInt 64 ((a : Int) * 256)).toNat = a * 256 := by
    rw [BitVec.toNat_ofInt]
    show (((a : Int) * 256) % ((2 ^ 64 : Nat) : Int)).toNat = _
    omega
  have e2 : (BitVec.ofInt 64 (b : Int)).toNat = b := by
    rw [BitVec.toNat_ofInt]
    show ((b : Int) % ((2 ^ 64 : Nat) : Int)).toNat = _
    omega
  have e3 : a * 256 ||| b = a * 256 + b := by
    have := Nat.shiftLeft_add_eq_or_of_lt (i := 8) (b := b) (by omega) a
    rw [Nat.shiftLeft_eq] at this
    rw [← this]
  show some (D.v (.int .u64 (IntKind.u64.wrap ((BitVec.ofInt 64 ((a : Int) * 256) ||| BitVec.ofInt 64 (b : Int)).toNat : Nat)))) = _
  rw [BitVec.toNat_or, e1, e2, e3, wrap64 (by omega), Int.natCast_add, Int.natCast_mul]
  rfl
theorem shl8_op {a : Int} (h : 0 ≤ a ∧ a * 256 ≤ 18446744073709551615) : opBin .shl (.v (.int .u64 a)) (.v (.int .u64 8)) = some (.v (.int .u64 (a * 256))) := by
  show some (D.v (.int .u64 (IntKind.u64.wrap (a * 256)))) = _
  rw [wrap64 (by omega)]
attribute [local go_sem high] or_op shl8_op
theorem get88 (l : List Int) (hb : okB l) (h1 : 1 ≤ l.length) (hl : l.length ≤ 8) : run G 22 [.v (.slc 1 (b8 l)), .v (.bool false)] [] = some (.tup [.v (.int .u64 (num l)), .v (.int .i64 0)], []) := by
  rw [xq_fn G rfl octs_Get.g _ _ rfl]
  have L := lpFor (G := G) (kill := [8, 9]) (body := octs_Get.l0) (fun i => [.v (.slc 1 (b8 l)), .v (.bool false), .v (.int .u64 0), .v (.int .i64 0), .v (.int .u64 (num (l.take i))), .v (.slc 1 (b8 l)), .v (.int .i64 l.length), .v (.int .i64 i), .undef, .undef]) (fun _ => [[]]) l.length
    (fun i hi => by
      have hx := b8_at (List.getElem?_eq_getElem hi)
      have hc := hb l[i] (List.getElem_mem _)
      have hn0 := num_rng (l.take i) (okB_take hb _)
      rw [List.length_take, Nat.min_eq_left (by omega)] at hn0
      have hp := pow_le8 (k := i + 1) (by omega)
      rw [Int.pow_succ] at hp
      simp -implicitDefEqProofs (maxSteps := 2000000) (disch := omega) only [octs_Get.l0, b8_len, hx, num_take hi, go_sem, reduceIte, Nat.reduceAdd, Nat.reduceSub, Nat.reduceMul, Nat.reduceLeDiff, Nat.reduceLT, Nat.reduceEqDiff, Int.reduceToNat, Int.reduceLT, Int.reduceLE, Int.reduceEq, Int.reduceNe, Int.reduceAdd, Int.reduceSub, Int.reduceMul, Int.reduceNeg, Int.reduceBEq, Int.reduceBNe, reduceCtorEq, dreduceIte, oWS, oW8, oW16, oW32, oW64, oLtT, oLtF, oLeT, oLeF, oNLtT, oNLtF, oNLeT, oNLeF, oEqT, oEqF, oNEqT, oNEqF, oBeqT, oBeqF, oBneT, oBneF, Int.natCast_add, List.take_length]) (by simp -implicitDefEqProofs (maxSteps := 2000000) (disch := omega) only [octs_Get.l0, go_sem, reduceIte, Nat.reduceAdd, Nat.reduceSub, Nat.reduceMul, Nat.reduceLeDiff, Nat.reduceLT, Nat.reduceEqDiff, Int.reduceToNat, Int.reduceLT, Int.reduceLE, Int.reduceEq, Int.reduceNe, Int.reduceAdd, Int.reduceSub, Int.reduceMul, Int.reduceNeg, Int.reduceBEq, Int.reduceBNe, reduceCtorEq, dreduceIte, oWS, oW8, oW16, oW32, oW64, oLtT, oLtF, oLeT, oLeF, oNLtT, oNLtF, oNLeT, oNLeF, oEqT, oEqF, oNEqT, oNEqF, oBeqT, oBeqF, oBneT, oBneF, Int.natCast_add, List.take_length]; rfl)
  simp only [num_nil, z0, Int.cast_ofNat_Int, List.take_zero, List.map_nil, List.drop_zero, accN, b8_nil, Int.sub_zero, Int.add_zero, Int.zero_add, Nat.zero_add, Nat.sub_zero, List.nil_append, List.append_nil] at L
  simp -implicitDefEqProofs (maxSteps := 2000000) (disch := omega) only [octs_Get.s, b8_len, L, List.take_length, go_sem, reduceIte, Nat.reduceAdd, Nat.reduceSub, Nat.reduceMul, Nat.reduceLeDiff, Nat.reduceLT, Nat.reduceEqDiff, Int.reduceToNat, Int.reduceLT, Int.reduceLE, Int.reduceEq, Int.reduceNe, Int.reduceAdd, Int.reduceSub, Int.reduceMul, Int.reduceNeg, Int.reduceBEq, Int.reduceBNe, reduceCtorEq, dreduceIte, oWS, oW8, oW16, oW32, oW64, oLtT, oLtF, oLeT, oLeF, oNLtT, oNLtF, oNLeT, oNLeF, oEqT, oEqF, oNEqT, oNEqF, oBeqT, oBeqF, oBneT, oBneF, Int.natCast_add, List.take_length]

abbrev rvS (c : List Int) : St := [[.row ((b8 c).map .v)]]
abbrev rvE (w : Nat) (i : Nat) : List D := [.own ⟨0, 0⟩ 1 0 w true, .v (.int .i64 i), .v (.int .i64 (w - 1 - i))]
theorem rv_step (c : List Int) (w : Nat) (hw : w ≤ 8) (hc : c.length = w) (i : Nat) (hi : 2 * i + 1 < w) (x y : Int) (hx : c[i]? = some x) (hy : c[w - 1 - i]? = some y) :
    ex G (.loop [] slices_Reverse_byte.l0) (rvE w i) ([] :: rvS c) = ex G (.loop [] slices_Reverse_byte.l0) (rvE w (i + 1)) ([] :: rvS ((c.set i y).set (w - 1 - i) x)) := by
  have q0 : (0 : Int) ≤ i := by omega
  have q1 : (i : Int) < (w : Int) - 1 - i := by omega
  have q2 : (i : Int) < (w : Int) := by omega
  have q3 : (0 : Int) ≤ (w : Int) - 1 - i := by omega
  have q4 : (w : Int) - 1 - i < (w : Int) := by omega
  have q5 : ((w : Int) - 1 - i).toNat = w - 1 - i := by omega
  have w1 := inc (i := i) (by have : M = 100000 := rfl; omega)
  have w2 : IntKind.i64.wrap ((w : Int) - 1 - i - 1) = (w : Int) - 1 - ((i + 1 : Nat) : Int) := by rw [wrapS (by omega)]; omega
  have h1 := b8_rat hx
  have h2 := b8_rat hy
  have h3 := b8_rset c i y
  have h4 := b8_rset (c.set i y) (w - 1 - i) x
  have h5 : ((b8 (c.set i y)).map D.v)[w - 1 - i]? = some (.v (.int .u8 y)) := b8_rat (by rw [List.getElem?_set_ne (by omega)]; exact hy)
  rw [xq_loop]
  simp -implicitDefEqProofs only [slices_Reverse_byte.l0, go_sem, reduceIte, Nat.reduceAdd, Nat.reduceSub, Nat.reduceMul, Nat.reduceLeDiff, Nat.reduceLT, Nat.reduceEqDiff, Int.reduceToNat, Int.reduceLT, Int.reduceLE, Int.reduceEq, Int.reduceNe, Int.reduceAdd, Int.reduceSub, Int.reduceMul, Int.reduceNeg, Int.reduceBEq, Int.reduceBNe, reduceCtorEq, dreduceIte, q0, q1, q2, q3, q4, q5, Int.toNat_natCast, h1, h2, h3, h4, h5, w1, w2, lpD]
theorem rv_loop (l : List Int) (hw : l.length ≤ 8) : ∀ (m i : Nat) (c : List Int), l.length ≤ 2 * i + 1 + m → i ≤ l.length → c.length = l.length → (∀ k, c[k]? = if k < i ∨ l.length < k + 1 + i then l.reverse[k]? else l[k]?) →
    ∃ i', ex G (.loop [] slices_Reverse_byte.l0) (rvE l.length i) ([] :: rvS c) = some (.exit 0, rvE l.length i', [] :: rvS l.reverse)
  | m, i, c, hm, hiw, hc, h => by
    by_cases hi : 2 * i + 1 < l.length
    · cases m with
      | zero => omega
      | succ m =>
        have hx : c[i]? = some (l[i]'(by omega)) := by rw [h i, if_neg (by omega)]; exact List.getElem?_eq_getElem (by omega)
        have hy : c[l.length - 1 - i]? = some (l[l.length - 1 - i]'(by omega)) := by rw [h (l.length - 1 - i), if_neg (by omega)]; exact List.getElem?_eq_getElem (by omega)
        have hs := rv_step c l.length hw hc i hi _ _ hx hy
        obtain ⟨i', h2⟩ := rv_loop l hw m (i + 1) ((c.set i l[l.length - 1 - i]).set (l.length - 1 - i) l[i]) (by omega) (by omega) (by simp [hc]) (fun k => by
          have hk := h k
          by_cases e1 : k = l.length - 1 - i
          · subst e1
            rw [List.getElem?_set_self (by rw [List.length_set]; omega), if_pos (by omega), List.getElem?_reverse (by omega)]
            rw [show l.length - 1 - (l.length - 1 - i) = i by omega]
            exact (List.getElem?_eq_getElem (by omega)).symm
          · rw [List.getElem?_set_ne (Ne.symm e1)]
            by_cases e2 : k = i
            · subst e2
              rw [List.getElem?_set_self (by omega), if_pos (by omega), List.getElem?_reverse (by omega)]
              exact (List.getElem?_eq_getElem (by omega)).symm
            · rw [List.getElem?_set_ne (Ne.symm e2), hk]
              by_cases e3 : k < i ∨ l.length < k + 1 + i
              · rw [if_pos e3, if_pos (by omega)]
              · rw [if_neg e3, if_neg (by omega)])
        exact ⟨i', hs.trans h2⟩
    · refine ⟨i, ?_⟩
      have he : c = l.reverse := by
        refine List.ext_getElem? fun k => ?_
        rw [h k]
        by_cases e : k < i ∨ l.length < k + 1 + i
        · rw [if_pos e]
        · rw [if_neg e]
          by_cases hk : k < l.length
          · rw [List.getElem?_reverse (by omega), show l.length - 1 - k = k by omega]
          · rw [List.getElem?_eq_none (by omega), List.getElem?_eq_none (by simp; omega)]
      subst he
      exact rnd_end (by simp -implicitDefEqProofs (maxSteps := 2000000) (disch := omega) only [slices_Reverse_byte.l0, go_sem, reduceIte, Nat.reduceAdd, Nat.reduceSub, Nat.reduceMul, Nat.reduceLeDiff, Nat.reduceLT, Nat.reduceEqDiff, Int.reduceToNat, Int.reduceLT, Int.reduceLE, Int.reduceEq, Int.reduceNe, Int.reduceAdd, Int.reduceSub, Int.reduceMul, Int.reduceNeg, Int.reduceBEq, Int.reduceBNe, reduceCtorEq, dreduceIte, oWS, oW8, oW16, oW32, oW64, oLtT, oLtF, oLeT, oLeF, oNLtT, oNLtF, oNLeT, oNLeF, oEqT, oEqF, oNEqT, oNEqF, oBeqT, oBeqF, oBneT, oBneF, Int.natCast_add, List.take_length])
theorem reverse115 (l : List Int) (hw : l.length ≤ 8) : run G 34 [.own ⟨0, 0⟩ 1 0 l.length true] (rvS l) = some (.tup [], rvS l.reverse) := by
  rw [xq_fn G rfl slices_Reverse_byte.g _ _ rfl]
  obtain ⟨i', L⟩ := rv_loop l hw l.length 0 l (by omega) (by omega) rfl (fun k => by
    by_cases e : l.length < k + 1 + 0
    · rw [if_pos (.inr e), List.getElem?_eq_none (by omega), List.getElem?_eq_none (by simp; omega)]
    · rw [if_neg (by omega)])
  have w1 : IntKind.i64.wrap ((l.length : Int) - 1) = (l.length : Int) - 1 := wrapS (by omega)
  have e0 : (l.length : Int) - 1 - ((0 : Nat) : Int) = (l.length : Int) - 1 := by omega
  have L' : ex G (.loop [] slices_Reverse_byte.l0) [.own ⟨0, 0⟩ 1 0 l.length true, .v (.int .i64 0), .v (.int .i64 ((l.length : Int) - 1 - ((0 : Nat) : Int)))] ([] :: rvS l) = _ := L
  rw [e0] at L'
  simp -implicitDefEqProofs only [slices_Reverse_byte.s, go_sem, reduceIte, Nat.reduceAdd, Nat.reduceSub, Nat.reduceMul, Nat.reduceLeDiff, Nat.reduceLT, Nat.reduceEqDiff, Int.reduceToNat, Int.reduceLT, Int.reduceLE, Int.reduceEq, Int.reduceNe, Int.reduceAdd, Int.reduceSub, Int.reduceMul, Int.reduceNeg, Int.reduceBEq, Int.reduceBNe, reduceCtorEq, dreduceIte, w1, L']

theorem put_low (n : Int) (h0 : 0 ≤ n) (i : Nat) (hi : i < 8) : IntKind.u8.wrap (n.fdiv (2 ^ min ((8 * (i : Int)).toNat) 64)) = n / 256 ^ i % 256 := by
  have e : min ((8 * (i : Int)).toNat) 64 = 8 * i := by omega
  rw [e, wrapU8, Int.fdiv_eq_ediv_of_nonneg _ (Int.pow_nonneg (by decide)), Int.pow_mul]
  rfl
theorem little_set (w : Nat) (n : Int) (i : Nat) (hi : i < w) : ((big w n).reverse.take i ++ List.replicate (w - i) 0).set i (n / 256 ^ i % 256) = (big w n).reverse.take (i + 1) ++ List.replicate (w - (i + 1)) 0 := by
  have hl : (big w n).reverse.length = w := by rw [List.length_reverse, big_len]
  have e : w - i = (w - (i + 1)) + 1 := by omega
  have hm : i - (List.take i (big w n).reverse).length = 0 := by rw [List.length_take]; omega
  rw [e, List.replicate_succ, List.set_append_right _ _ (by rw [List.length_take]; omega), hm, List.set_cons_zero, take_succ (by omega), List.append_assoc, List.singleton_append]
  congr 2
  have : ∀ (w : Nat) (n : Int) (i : Nat) (h : i < (big w n).reverse.length), (big w n).reverse[i] = n / 256 ^ i % 256 := by
    intro w
    induction w with
    | zero => intro n i h; simp [big] at h
    | succ w ih =>
      intro n i h
      have q : (big (w + 1) n).reverse = n % 256 :: (big w (n / 256)).reverse := by simp [big]
      cases i with
      | zero => simp [q]
      | succ i =>
        have h' : i < (big w (n / 256)).reverse.length := by rw [q] at h; simpa using h
        have := ih (n / 256) i h'
        simp only [q, List.getElem_cons_succ, this]
        rw [Int.ediv_ediv_of_nonneg (by omega), ← Int.pow_succ']
  exact (this w n i (by omega)).symm
theorem put85 (n : Int) (h0 : 0 ≤ n) (hn : n ≤ 18446744073709551615) (w : Nat) (h1 : 1 ≤ w) (hw : w ≤ 8) : run G 31 [.v (.int .u64 n), .v (.int .i64 w), .v (.bool false)] [] = some (.tup [.lin 1 (b8 (big w n)), .v (.int .i64 0)], []) := by
  rw [xq_fn G rfl octs_Put.g _ _ rfl]
  have hM := hmax
  have hl : (big w n).reverse.length = w := by rw [List.length_reverse, big_len]
  have L := lpFor (G := G) (kill := [8]) (body := octs_Put.l0) (fun i => [.v (.int .u64 n), .v (.int .i64 w), .v (.bool false), .nils 1, .v (.int .i64 0), .own ⟨0, 0⟩ 1 0 w true, .v (.int .i64 w), .v (.int .i64 i), .undef]) (fun i => [[.row ((b8 ((big w n).reverse.take i ++ List.replicate (w - i) 0)).map .v)]]) w
    (fun i hi => by
      have hs := b8_rset ((big w n).reverse.take i ++ List.replicate (w - i) 0) i (n / 256 ^ i % 256)
      rw [little_set w n i hi] at hs
      have hx : ((b8 ((big w n).reverse.take i ++ List.replicate (w - i) 0)).map D.v)[i]? = some (.v (.int .u8 0)) := b8_rat (by rw [List.getElem?_append_right (by rw [List.length_take]; omega), List.length_take, hl, Nat.min_eq_left (by omega), Nat.sub_self, List.getElem?_replicate, if_pos (by omega)])
      have w0 := put_low n h0 i (by omega)
      simp -implicitDefEqProofs (maxSteps := 2000000) (disch := omega) only [octs_Put.l0, hx, hs, w0, go_sem, reduceIte, Nat.reduceAdd, Nat.reduceSub, Nat.reduceMul, Nat.reduceLeDiff, Nat.reduceLT, Nat.reduceEqDiff, Int.reduceToNat, Int.reduceLT, Int.reduceLE, Int.reduceEq, Int.reduceNe, Int.reduceAdd, Int.reduceSub, Int.reduceMul, Int.reduceNeg, Int.reduceBEq, Int.reduceBNe, reduceCtorEq, dreduceIte, oWS, oW8, oW16, oW32, oW64, oLtT, oLtF, oLeT, oLeF, oNLtT, oNLtF, oNLeT, oNLeF, oEqT, oEqF, oNEqT, oNEqF, oBeqT, oBeqF, oBneT, oBneF, Int.natCast_add, List.take_length]) (by simp -implicitDefEqProofs (maxSteps := 2000000) (disch := omega) only [octs_Put.l0, go_sem, reduceIte, Nat.reduceAdd, Nat.reduceSub, Nat.reduceMul, Nat.reduceLeDiff, Nat.reduceLT, Nat.reduceEqDiff, Int.reduceToNat, Int.reduceLT, Int.reduceLE, Int.reduceEq, Int.reduceNe, Int.reduceAdd, Int.reduceSub, Int.reduceMul, Int.reduceNeg, Int.reduceBEq, Int.reduceBNe, reduceCtorEq, dreduceIte, oWS, oW8, oW16, oW32, oW64, oLtT, oLtF, oLeT, oLeF, oNLtT, oNLtF, oNLeT, oNLeF, oEqT, oEqF, oNEqT, oNEqF, oBeqT, oBeqF, oBneT, oBneF, Int.natCast_add, List.take_length]; rfl)
  simp only [z0, Int.cast_ofNat_Int, List.take_zero, List.map_nil, List.drop_zero, accN, b8_nil, Int.sub_zero, Int.add_zero, Int.zero_add, Nat.zero_add, Nat.sub_zero, List.nil_append, List.append_nil] at L
  rw [List.take_of_length_le (by omega)] at L
  have hm : makeD [.v (.int .u64 n), .v (.int .i64 w), .v (.bool false), .nils 1, .v (.int .i64 0), .undef, .undef, .undef, .undef] [.v (.int .i64 w)] [[]] 1 1 (.v (.int .u8 0)) w w = some (.own ⟨0, 0⟩ 1 0 w true, [.v (.int .u64 n), .v (.int .i64 w), .v (.bool false), .nils 1, .v (.int .i64 0), .undef, .undef, .undef, .undef], [.v (.int .i64 w)], [[.row (List.replicate w (.v (.int .u8 0)))]]) := by
    unfold makeD
    rw [if_pos ⟨by omega, rfl, by omega, rfl⟩]
    simp [addB]
  have er : (b8 (List.replicate w 0)).map D.v = List.replicate w (.v (.int .u8 0)) := by simp [b8]
  have R := reverse115 (big w n).reverse (by omega)
  rw [hl, List.reverse_reverse] at R
  have hr := b8_row (big w n) w (big_len w n).symm
  rw [er] at L
  simp -implicitDefEqProofs (maxSteps := 2000000) (disch := omega) only [octs_Put.s, hm, L, R, hr, b8r, big_len, go_sem, reduceIte, Nat.reduceAdd, Nat.reduceSub, Nat.reduceMul, Nat.reduceLeDiff, Nat.reduceLT, Nat.reduceEqDiff, Int.reduceToNat, Int.reduceLT, Int.reduceLE, Int.reduceEq, Int.reduceNe, Int.reduceAdd, Int.reduceSub, Int.reduceMul, Int.reduceNeg, Int.reduceBEq, Int.reduceBNe, reduceCtorEq, dreduceIte, oWS, oW8, oW16, oW32, oW64, oLtT, oLtF, oLeT, oLeF, oNLtT, oNLtF, oNLeT, oNLeF, oEqT, oEqF, oNEqT, oNEqF, oBeqT, oBeqF, oBneT, oBneF, Int.natCast_add, List.take_length]

def pe (ps : List (List Int)) : List V := ps.map fun p => .slc 1 (b8 p)
theorem pe_len (ps : List (List Int)) : (pe ps).length = ps.length := by simp [pe]
theorem pe_at {ps : List (List Int)} {i : Nat} {x : List Int} (h : ps[i]? = some x) : (pe ps)[i]? = some (.slc 1 (b8 x)) := by simp [pe, h]
theorem flat_take {ps : List (List Int)} {i : Nat} (h : i < ps.length) : (ps.take (i + 1)).flatten = (ps.take i).flatten ++ ps[i] := by rw [take_succ h, List.flatten_append, List.flatten_cons, List.flatten_nil, List.append_nil]
theorem flat_le : ∀ (ps : List (List Int)) (i : Nat), (ps.take i).flatten.length ≤ ps.flatten.length
  | [], i => by simp
  | p :: ps, 0 => by simp
  | p :: ps, i + 1 => by
    have := flat_le ps i
    simp only [List.take_succ_cons, List.flatten_cons, List.length_append]
    omega
end Go.Q
