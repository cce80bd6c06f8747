/- Functions that are told by a word of their own: strings.Index, strings.Split at a separator of one byte. No condition. -/
import Derived.Test.YthfjopmfgaohjaaDoorEvA
import Derived.Lib.SplitLaws
import Derived.Lib.AppendIntMem
import Derived.Lib.Join
import Derived.Lib.AtoiAll
set_option linter.all false
namespace Go.Q
def primSS (φ : List UInt8 → List UInt8 → Option V) : List D → St → Option (D × St)
  | [.v (.str s), .v (.str t)], st => if s.length < 4294967281 then (φ s t).map fun x => (.v x, st) else none
  | _, _ => none
def primSplit (φ : List UInt8 → List UInt8 → Option (List (List UInt8))) : List D → St → Option (D × St)
  | [.v (.str s), .v (.str t)], st => if s.length < 4294967281 then (φ s t).map fun l => (.lin 1 (l.map V.str), st) else none
  | _, _ => none
def primPure (φ : List V → Option D) : List D → St → Option (D × St) := fun ds st => (allV ds).bind fun xs => (φ xs).map fun d => (d, st)
def partsV (st : St) : List D → Option (List (List V))
  | [] => some []
  | d :: r => ((rdV st d).bind (slcOf 1)).bind fun xs => (partsV st r).map (xs :: ·)
def isIntV : V → Bool
  | .int _ _ => true
  | _ => false
def joinGo (st : St) (bss : List (List V)) : Option (D × St) :=
  if bss.flatten.all isIntV = true ∧ bss.flatten.length ≠ 0 ∧ bss.flatten.length ≤ 100000 ∧ bss.length ≤ 1000 ∧ 1 ≤ st.length then some (.own (addB st (.row (bss.flatten.map .v))).2 1 0 bss.flatten.length false, (addB st (.row (bss.flatten.map .v))).1) else none
def joinRow (st : St) (off len : Nat) (xs : List D) : Option (D × St) := if off + len ≤ xs.length then (partsV st ((xs.drop off).take len)).bind (joinGo st) else none
def primJoinO : List D → St → Option (D × St)
  | [.own r 1 off len _], st => (rowOf (getB st r)).bind (joinRow st off len)
  | _, _ => none
def itoaF : List V → Option D
  | [.int .i64 n] => if -9223372036854775808 ≤ n ∧ n ≤ 9223372036854775807 then some (.v (.str (Lib.itoa n))) else none
  | _ => none
def atoiE (te : Nat) (s : List UInt8) : Lib.NumEnd Int → D
  | .ok v => .tup [.v (.int .i64 v), .v .nili]
  | .range => .tup [.v (.int .i64 (Lib.atoiSat s)), .ifc te .undef]
  | _ => .tup [.v (.int .i64 0), .ifc te .undef]
def atoiF (te : Nat) : List V → Option D
  | [.str s] => if s.length ≤ 281474976710656 then some (atoiE te s (Lib.atoiAll s)) else none
  | _ => none
def strsOf : List V → Option (List (List UInt8))
  | [] => some []
  | .str s :: r => (strsOf r).map (s :: ·)
  | _ => none
theorem strsOf_eq : ∀ {xs : List V} {l : List (List UInt8)}, strsOf xs = some l → xs = l.map V.str
  | [], l, h => by simp only [strsOf] at h; cases h; rfl
  | x :: xs, l, h => by
    cases x <;> simp only [strsOf] at h <;> first | (cases h; done) | skip
    obtain ⟨ys, h1, rfl⟩ := map_some' h
    rw [strsOf_eq h1]; rfl
def joinF : List V → Option D
  | [.slc 1 xs, .str t] => (strsOf xs).bind fun l => if l.length ≤ 140737488355328 ∧ (Lib.join l t).length ≤ 140737488355328 then some (.v (.str (Lib.join l t))) else none
  | _ => none
def idxL (sub : List UInt8) : List UInt8 → Nat → Int
  | [], i => if sub.isEmpty then i else -1
  | b :: l, i => if sub.isPrefixOf (b :: l) then i else idxL sub l (i + 1)
theorem idxL_eq (sub : List UInt8) : ∀ (l : List UInt8) (i : Nat), idxL sub l i = if Lib.index l sub = -1 then -1 else Lib.index l sub + i
  | [], i => by
    simp only [idxL, Lib.index]
    split
    · simp
    · simp
  | b :: l, i => by
    have ih := idxL_eq sub l (i + 1)
    have hge := Lib.index_ge l sub
    simp only [idxL, Lib.index, ih]
    split
    · simp
    · by_cases h : Lib.index l sub = -1
      · simp [h]
      · have h2 : (Lib.index l sub == -1) = false := by simpa using h
        simp only [h2, if_neg h, Bool.false_eq_true, if_false]
        rw [if_neg (by omega)]
        omega
theorem idxL_index (s t : List UInt8) : idxL t s 0 = Lib.index s t := by
  rw [idxL_eq]
  split
  · rename_i h; exact h.symm
  · simp
def splitC (c : UInt8) : List UInt8 → List (List UInt8)
  | [] => [[]]
  | b :: l => if b == c then [] :: splitC c l else match splitC c l with
    | [] => [[b]]
    | x :: r => (b :: x) :: r
theorem splitC_none (c : UInt8) : ∀ l : List UInt8, Lib.count l [c] = 0 → splitC c l = [l]
  | [], _ => rfl
  | b :: l, h => by
    by_cases e : b = c
    · subst e; rw [Lib.count_cons_eq] at h; omega
    · rw [Lib.count_cons_ne b c l e] at h
      have : (b == c) = false := by simpa using e
      simp only [splitC, this, Bool.false_eq_true, if_false, splitC_none c l h]
theorem splitC_eq (c : UInt8) : ∀ l : List UInt8, Lib.split l [c] = splitC c l
  | [] => by
    have : Lib.count [] [c] = 0 := by rw [Lib.count_one]; rfl
    rw [Lib.split, this]; rfl
  | b :: l => by
    have ih := splitC_eq c l
    by_cases e : b = c
    · subst e
      have hp : Lib.index (b :: l) [b] = 0 := by simp [Lib.index, List.isPrefixOf]
      rw [Lib.split, Lib.count_cons_eq, Nat.add_comm, Lib.splitK, hp]
      simp only [splitC, beq_self_eq_true, if_true]
      rw [← ih, Lib.split]
      simp
    · have hb : (b == c) = false := by simpa using e
      have hp : ([c] : List UInt8).isPrefixOf (b :: l) = false := by simp [List.isPrefixOf, Ne.symm e]
      simp only [splitC, hb, Bool.false_eq_true, if_false]
      rw [← ih, Lib.split, Lib.split, Lib.count_cons_ne b c l e]
      have hge := Lib.index_ge l [c]
      cases hk : Lib.count l [c] with
      | zero => rfl
      | succ k =>
        have hi : Lib.index l [c] ≠ -1 := fun h => by rw [Lib.count_miss h] at hk; omega
        have hib : (Lib.index l [c] == -1) = false := by simpa using hi
        have hix : Lib.index (b :: l) [c] = Lib.index l [c] + 1 := by rw [Lib.index, hp]; simp [hib]
        have hix2 : (Lib.index (b :: l) [c] == -1) = false := by rw [hix]; simp; omega
        rw [Lib.splitK, Lib.splitK, hib, hix2, hix]
        have e1 : (Lib.index l [c] + 1).toNat = (Lib.index l [c]).toNat + 1 := by omega
        simp only [Bool.false_eq_true, if_false, e1, Nat.add_zero, List.take_succ_cons, List.length_singleton]
        rw [List.drop_succ_cons]
def splitF : List UInt8 → List UInt8 → Option (List (List UInt8))
  | s, [c] => some (splitC c s)
  | _, _ => none
def indexF (s t : List UInt8) : Option V := some (.int .i64 (idxL t s 0))
def idxO (t s : List UInt8) : V := match ixS t s with
  | none => .int .i64 (-1)
  | some i => .int .i64 i
theorem ixS_idx (c : UInt8) (t : List UInt8) : ∀ (s : List UInt8), Lib.index s (c :: t) = match ixS (c :: t) s with
    | none => -1
    | some i => (i : Int)
  | [] => rfl
  | b :: l => by
    have ih := ixS_idx c t l
    simp only [Lib.index, ixS, ih]
    by_cases h : (c :: t).isPrefixOf (b :: l) = true
    · simp [h]
    · simp only [h, if_false, Bool.false_eq_true]
      cases ixS (c :: t) l with
      | none => simp
      | some i =>
        have : ((i : Int) == -1) = false := by simp
        simp [this]
theorem idxO_eq (c : UInt8) (t s : List UInt8) : idxO (c :: t) s = .int .i64 (Lib.index s (c :: t)) := by
  rw [ixS_idx, idxO]
  cases ixS (c :: t) s <;> rfl
def bidxF : List V → Option D
  | [.slc 1 xs, .slc 1 ys] => (bytesOf xs).bind fun a => (bytesOf ys).bind fun b => if a.length < 4294967281 ∧ 2 ≤ b.length ∧ b.length ≤ 281474976710656 then some (.v (idxO b a)) else none
  | _ => none
def bpreF : List V → Option D
  | [.slc 1 xs, .slc 1 ys] => (bytesOf xs).bind fun a => (bytesOf ys).map fun b => .v (.bool (b.isPrefixOf a))
  | _ => none
def sidxF : List V → Option D
  | [.str s, .int .u8 n] => if 0 ≤ n ∧ n < 256 then some (.v (idxO [UInt8.ofNat n.toNat] s)) else none
  | _ => none
def digV : List UInt8 → Nat → Option Nat
  | [], n => some n
  | c :: r, n => if 48 ≤ c.toNat ∧ c.toNat ≤ 57 then digV r (n * 10 + (c.toNat - 48)) else none
def puintF (te : Nat) : List V → Option D
  | [.str s, .int .i64 a, .int .i64 b] => if a = 10 ∧ b = 64 ∧ s ≠ [] ∧ s.length ≤ 281474976710656 then (digV s 0).map fun (n : Nat) => if n < 18446744073709551616 then .tup [.v (.int .u64 (n : Int)), .v .nili] else .tup [.v (.int .u64 18446744073709551615), .ifc te .undef] else none
  | _ => none
def digsN : Nat → Nat → List UInt8
  | 0, _ => []
  | k + 1, n => if n < 10 then [UInt8.ofNat (48 + n)] else digsN k (n / 10) ++ [UInt8.ofNat (48 + n % 10)]
def futoaF : List V → Option D
  | [.int .u64 n, .int .i64 b] => if b = 10 ∧ 0 ≤ n ∧ n < 18446744073709551616 then some (.v (.str (digsN 20 n.toNat))) else none
  | _ => none
def trimRB (c s : List UInt8) : List UInt8 := (s.reverse.dropWhile (c.contains ·)).reverse
def trimOkB (c s : List UInt8) : Bool := c.all (fun b => decide (b.toNat < 128)) && decide (c.length < 4294967281) && decide (s.length ≤ 281474976710656)
def trimF : List V → Option D
  | [.str s, .str c] => if trimOkB c s = true then some (.v (.str ((trimRB c s).dropWhile (c.contains ·)))) else none
  | _ => none
def trimRF : List V → Option D
  | [.str s, .str c] => if trimOkB c s = true then some (.v (.str (trimRB c s))) else none
  | _ => none
def cutV (t s : List UInt8) : D := match ixS t s with
  | none => .tup [.v (.str s), .v (.str []), .v (.bool false)]
  | some i => .tup [.v (.str (s.take i)), .v (.str (s.drop (i + t.length))), .v (.bool true)]
def cutF : List V → Option D
  | [.str s, .str (c :: t)] => if s.length < 4294967281 then some (cutV (c :: t) s) else none
  | _ => none
def tokB (c : UInt8) : Bool := decide (97 ≤ c.toNat ∧ c.toNat ≤ 122) || decide (65 ≤ c.toNat ∧ c.toNat ≤ 90) || decide (48 ≤ c.toNat ∧ c.toNat ≤ 57) || c == 45 || c == 95 || c == 46 || c == 123 || c == 125 || c == 47
def tokenF : List V → Option D
  | [.str s] => some (.v (.bool (decide (1 ≤ s.length ∧ s.length ≤ 64) && s.all tokB)))
  | _ => none
def primSeq (fc : Nat) : List D → St → Option (D × St)
  | [.v (.str s), .v (.str t)], fr :: st => some (.clo fc [] [.va [.str t] 0, .ptr (addB (fr :: st) (.row [.v (.str s)])).2 0 0, .va [.int .i64 0] 0], (addB (fr :: st) (.row [.v (.str s)])).1)
  | _, _ => none
theorem runF_run {G : Prg} {f : Nat} {F : SFunc} (hp : G.prim f = none) (hf : G.fn f = some F) {n args st r} (h : runF (run G) n F args st = some r) : run G f args st = some r := by
  unfold runF at h
  split at h
  · rename_i hl
    obtain ⟨o, h1, h2⟩ := bind_some' h
    obtain ⟨m, hm⟩ := exec_cont h1
    refine run_of (n := max m n + 1) ?_
    simp only [runN, hp, hf]
    unfold runF
    rw [if_pos hl]
    exact of_bind (exec_le (runN_le G (Nat.le_max_left m n)) (Nat.le_max_right m n) hm) h2
  · cases h
theorem swap {G G' : Prg} (hfn : ∀ f F, G'.prim f = none → G'.fn f = some F → G.prim f = none ∧ G.fn f = some F) (hp : ∀ f T, G'.prim f = some T → ∀ args st r, T args st = some r → run G f args st = some r) : ∀ n, Le (runN G' n) (run G)
  | 0 => fun _ _ _ _ e => by simp [runN] at e
  | n + 1 => fun f as st r e => by
    simp only [runN] at e
    cases h : G'.prim f with
    | some T => simp only [h] at e; exact hp f T h as st r e
    | none =>
      simp only [h] at e
      cases hf : G'.fn f with
      | none => simp only [hf] at e; cases e
      | some F =>
        simp only [hf] at e
        obtain ⟨h1, h2⟩ := hfn f F h hf
        exact runF_run h1 h2 (runF_le (swap hfn hp n) (Nat.le_refl _) e)
def partsF : List V → Option D
  | [.str s] => if s.length ≤ 100000 then some (.v (.slc 1 ((splitC 32 s).map V.str))) else none
  | _ => none
end Go.Q
