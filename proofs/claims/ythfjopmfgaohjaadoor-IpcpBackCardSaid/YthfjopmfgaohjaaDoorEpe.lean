/- The words of the texts of lines: how a contract is such a word. No condition. -/
import Derived.Test.YthfjopmfgaohjaaDoorEp
import Derived.Lib.SlTrimSet
import Derived.Lib.ParseIntBCases
import Derived.Lib.ItoaNum
import Derived.Lib.IndexMore
import Derived.Lib.Bytes
import Derived.Lib.Bytealg
import Derived.Shelf.Bytes.SlSmallAll
set_option linter.all false
namespace Go.Q
variable [Known]
section
variable {P : Program} {w : World} {g : Gh} {st : St}
theorem arr1 {vals : Array Value} (h : vals.size = 1) : ∃ a, vals = #[a] := ⟨vals[0], by
  apply Array.ext
  · simpa using h
  · intro i hi hj
    have : i = 0 := by simp at hj; omega
    subst this; rfl⟩
theorem arr2 {vals : Array Value} (h : vals.size = 2) : ∃ a b, vals = #[a, b] := ⟨vals[0], vals[1], by
  apply Array.ext
  · simpa using h
  · intro i hi hj
    have : i = 0 ∨ i = 1 := by simp at hj; omega
    rcases this with rfl | rfl <;> rfl⟩
theorem arr3 {vals : Array Value} (h : vals.size = 3) : ∃ a b c, vals = #[a, b, c] := ⟨vals[0], vals[1], vals[2], by
  apply Array.ext
  · simpa using h
  · intro i hi hj
    have : i = 0 ∨ i = 1 ∨ i = 2 := by simp at hj; omega
    rcases this with rfl | rfl | rfl <;> rfl⟩
theorem str_rel (z : List UInt8) (w : World) (g : Gh) (pl : Nat → Pl) : RelD w g pl (.v (.str z)) (.string ⟨z.toArray⟩) := .v _ _ _ (by
  have := RelV.str (w := w) (L := g.L) ⟨z.toArray⟩
  simpa using this)
theorem bool_rel (b : Bool) (w : World) (g : Gh) (pl : Nat → Pl) : RelD w g pl (.v (.bool b)) (.bool b) := .v _ _ _ (.bool _)
theorem int_rel (k : IntKind) (n : Int) (w : World) (g : Gh) (pl : Nat → Pl) : RelD w g pl (.v (.int k n)) (.int k n) := .v _ _ _ (.int _ _)
theorem tup2 {g : Gh} {pl : Nat → Pl} {x y : D} {v u : Value} (h1 : RelD w g (fun _ => pl 0) x v) (h2 : RelD w g (fun _ => pl 1) y u) : RelD w g pl (.tup [x, y]) (.tuple #[v, u]) :=
  .tup _ _ _ rfl fun i hi => by
    have : i = 0 ∨ i = 1 := by simp at hi; omega
    rcases this with rfl | rfl
    · exact h1
    · exact h2
theorem tup3 {g : Gh} {pl : Nat → Pl} {x y z : D} {v u t : Value} (h1 : RelD w g (fun _ => pl 0) x v) (h2 : RelD w g (fun _ => pl 1) y u) (h3 : RelD w g (fun _ => pl 2) z t) : RelD w g pl (.tup [x, y, z]) (.tuple #[v, u, t]) :=
  .tup _ _ _ rfl fun i hi => by
    have : i = 0 ∨ i = 1 ∨ i = 2 := by simp at hi; omega
    rcases this with rfl | rfl | rfl
    · exact h1
    · exact h2
    · exact h3
theorem intV {L : Nat → Nat} {k : IntKind} {n : Int} {v : Value} (h : RelV w L (.int k n) v) : v = .int k n := by cases h; rfl
def intsOf (a : List UInt8) : List Int := a.map fun b => (b.toNat : Int)
theorem intsOf_len (a : List UInt8) : (intsOf a).length = a.length := by simp [intsOf]
theorem intsOf_bytes (a : List UInt8) : Lib.bytesOf (intsOf a) = a := by
  simp [intsOf, Lib.bytesOf, List.map_map, Function.comp_def]
theorem intsOf_rng (a : List UInt8) : ∀ x ∈ intsOf a, 0 ≤ x ∧ x < 256 := by
  intro x hx
  obtain ⟨b, _, rfl⟩ := List.mem_map.1 hx
  have := b.toNat_lt
  omega
theorem intsOf_at (a : List UInt8) (i : Nat) (h : i < a.length) : (intsOf a).getD i 0 = (a[i].toNat : Int) := by simp [intsOf, List.getD, h]
theorem bytes_shape {L : Nat → Nat} {xs : List V} {a : List UInt8} {v : Value} (hb : bytesOf xs = some a) (h : RelV w L (.slc 1 xs) v) :
    ∃ p c, v = .slice p a.length c ∧ a.length ≤ c ∧ (0 < a.length → ∃ b o, p = some ⟨b, o, none⟩ ∧ ∀ i, i < a.length → w.cell? ⟨b, o + i, none⟩ = some (.int .u8 ((intsOf a).getD i 0))) := by
  obtain ⟨hl, hat⟩ := bytesOf_at hb
  cases h with
  | slc0 _ p c =>
    have : a = [] := by simpa using hl
    subst this
    exact ⟨p, c, rfl, Nat.zero_le _, fun h => absurd h (by simp)⟩
  | slc _ _ b o c f hc hs hLb hv hk hr =>
    rw [← hl] at hc
    refine ⟨some ⟨b, o, none⟩, c, by rw [hl], hc, fun _ => ⟨b, o, rfl, fun i hi => ?_⟩⟩
    have hi' : i < xs.length := by omega
    have h0 := hr i hi' 0 (by rw [hat i hi' hi]; exact Nat.lt_succ_self 0)
    have h1 := hv i 0 hi' (by omega)
    have e : (cellsV xs[i])[0]'(by rw [hat i hi' hi]; exact Nat.lt_succ_self 0) = .int .u8 (a[i].toNat : Int) := by
      simp only [hat i hi' hi, cellsV, List.getElem_cons_zero]
    rw [e] at h0
    rw [Nat.mul_one, Nat.add_zero] at h1
    rw [h1, intV h0, intsOf_at a i hi]
theorem sidx_ix (c : UInt8) : ∀ s : List UInt8, Lib.indexByte s c = match ixS [c] s with
    | none => -1
    | some i => (i : Int)
  | [] => rfl
  | b :: l => by
    have ih := sidx_ix c l
    have e : ([c].isPrefixOf (b :: l)) = (b == c) := by
      simp [List.isPrefixOf]
      exact Bool.beq_comm
    simp only [Lib.indexByte, ixS, ih, e]
    cases hb : (b == c)
    · cases ixS [c] l with
      | none => simp
      | some i =>
        have : ((i : Int) == -1) = false := by simp
        simp [this]
    · simp
theorem sidx_ok {f : Nat} (hf : FnOk P f) (hc : ∀ (s : ByteArray) (c : Int) (w : World), Calls P f #[.string s, .int .u8 c] w fun e w' => e = .returned (.int .i64 (Lib.indexByte s.data.toList c.toNat.toUInt8)) ∧ w' = w) : PrimOk P f (primPure sidxF) := by
  refine primPure_ok hf fun xs d vals w g hl hx hv _ hk => ?_
  unfold sidxF at hx
  split at hx <;> first | (cases hx; done) | skip
  rename_i s n
  split at hx <;> cases hx
  obtain ⟨v1, v2, rfl⟩ := arr2 (vals := vals) (by simpa using hl.symm)
  obtain ⟨a, h1, rfl⟩ := strV (hv 0 (by simp))
  have h2 := intV (hv 1 (by simp))
  simp only [List.getElem_toArray, List.getElem_cons_zero, List.getElem_cons_succ] at h1 h2
  subst h1 h2
  refine (hc a n w).mono fun e w' ⟨he, hw⟩ => ⟨_, he, by subst hw; exact RowKit.Below.refl _ _, fun pl => ?_⟩
  have e1 : n.toNat.toUInt8 = UInt8.ofNat n.toNat := rfl
  rw [sidx_ix, e1, idxO]
  cases ixS [UInt8.ofNat n.toNat] a.data.toList <;> exact int_rel _ _ _ _ _
theorem addr_add (b o i : Nat) : (⟨b, o, none⟩ : Addr).add i = ⟨b, o + i, none⟩ := by
  unfold Addr.add
  split
  · rename_i h; subst h; rfl
  · rfl
theorem bidx_ok {f : Nat} {m : Int} (hf : FnOk P f) (hm : (0, 0, Value.int .i64 m) ∈ Known.gl)
    (hc : ∀ (a1 a2 : Addr) (n c1 k c2 : Nat) (xs ys : List Int) (w : World), xs.length = n → ys.length = k → (∀ x ∈ xs, 0 ≤ x ∧ x < 256) → (∀ y ∈ ys, 0 ≤ y ∧ y < 256) →
      (∀ i, i < n → w.cell? (a1.add i) = some (.int .u8 (xs.getD i 0))) → (∀ i, i < k → w.cell? (a2.add i) = some (.int .u8 (ys.getD i 0))) → n ≤ c1 → n < 4294967281 → k ≤ 9223372036854775807 → w.cell? ⟨0, 0, none⟩ = some (.int .i64 m) →
      Calls P f #[.slice (some a1) n c1, .slice (some a2) k c2] w fun e w' => e = .returned (.int .i64 (Lib.index (Lib.bytesOf xs) (Lib.bytesOf ys))) ∧ ∃ q, w' = w.drewN q)
    (h0 : ∀ (p q : Option Addr) (n c m d : Nat) (w : World), 2 ≤ m → n < m → m ≤ 9223372036854775807 → Calls P f #[.slice p n c, .slice q m d] w fun e w' => e = .returned (.int .i64 (-1)) ∧ w' = w) : PrimOk P f (primPure bidxF) := by
  refine primPure_ok hf fun xs d vals w g hl hx hv _ hk => ?_
  unfold bidxF at hx
  split at hx <;> first | (cases hx; done) | skip
  rename_i xs ys
  obtain ⟨a, ha, hx1⟩ := bind_some' hx
  obtain ⟨b, hb, hx2⟩ := bind_some' hx1
  split at hx2 <;> cases hx2
  rename_i hlen
  obtain ⟨v1, v2, rfl⟩ := arr2 (vals := vals) (by simpa using hl.symm)
  have r1 : RelV w g.L (.slc 1 xs) v1 := hv 0 (by simp)
  have r2 : RelV w g.L (.slc 1 ys) v2 := hv 1 (by simp)
  obtain ⟨p1, c1, rfl, k1, q1⟩ := bytes_shape ha r1
  obtain ⟨p2, c2, rfl, k2, q2⟩ := bytes_shape hb r2
  obtain ⟨b2, o2, rfl, q4⟩ := q2 (by omega)
  have hbne : ∃ c t, b = c :: t := by
    cases b with
    | nil => simp at hlen
    | cons c t => exact ⟨c, t, rfl⟩
  have e0 : ∀ i : Int, i = Lib.index a b → ∀ (w' : World) pl, RelD w' g pl (.v (idxO b a)) (.int .i64 i) := fun i hi w' pl => by
    obtain ⟨c, t, rfl⟩ := hbne
    rw [idxO_eq, hi]; exact int_rel _ _ _ _ _
  by_cases hn : 0 < a.length
  · obtain ⟨b1, o1, rfl, q3⟩ := q1 hn
    have hmm := (hk.1 _ hm).2
    refine (hc ⟨b1, o1, none⟩ ⟨b2, o2, none⟩ a.length c1 b.length c2 (intsOf a) (intsOf b) w (intsOf_len a) (intsOf_len b) (intsOf_rng a) (intsOf_rng b) (fun i hi => by rw [addr_add]; exact q3 i hi) (fun i hi => by rw [addr_add]; exact q4 i hi) k1 hlen.1 (by omega) hmm).mono fun e w' ⟨he, q, hw⟩ => ?_
    subst hw
    rw [intsOf_bytes, intsOf_bytes] at he
    exact ⟨_, he, ⟨rfl, rfl, rfl, Nat.le_refl _, fun _ _ => rfl⟩, e0 _ rfl _⟩
  · have ea : a = [] := by cases a with | nil => rfl | cons x a => simp at hn
    subst ea
    refine (h0 p1 (some ⟨b2, o2, none⟩) 0 c1 b.length c2 w hlen.2.1 (by omega) (by omega)).mono fun e w' ⟨he, hw⟩ => ⟨_, he, by subst hw; exact RowKit.Below.refl _ _, e0 _ ?_ _⟩
    obtain ⟨c, t, rfl⟩ := hbne
    rfl
theorem bpre_ok {f : Nat} (hf : FnOk P f)
    (hc : ∀ (p1 p2 : Option Addr) (n c m d : Nat) (xs ys : List Int) (w : World), xs.length = n → ys.length = m → n ≤ c → Lib.BytesIn w p1 n xs → Lib.BytesIn w p2 m ys →
      Calls P f #[.slice p1 n c, .slice p2 m d] w fun e w' => e = .returned (.bool (Lib.hasPrefix (Lib.bytesOf xs) (Lib.bytesOf ys))) ∧ w' = w) : PrimOk P f (primPure bpreF) := by
  refine primPure_ok hf fun xs d vals w g hl hx hv _ hk => ?_
  unfold bpreF at hx
  split at hx <;> first | (cases hx; done) | skip
  rename_i xs ys
  obtain ⟨a, ha, hx⟩ := bind_some' hx
  obtain ⟨b, hb, rfl⟩ := map_some' hx
  obtain ⟨v1, v2, rfl⟩ := arr2 (vals := vals) (by simpa using hl.symm)
  have r1 : RelV w g.L (.slc 1 xs) v1 := hv 0 (by simp)
  have r2 : RelV w g.L (.slc 1 ys) v2 := hv 1 (by simp)
  obtain ⟨p1, c1, rfl, k1, q1⟩ := bytes_shape ha r1
  obtain ⟨p2, c2, rfl, k2, q2⟩ := bytes_shape hb r2
  refine (hc p1 p2 a.length c1 b.length c2 (intsOf a) (intsOf b) w (intsOf_len a) (intsOf_len b) k1 q1 q2).mono fun e w' ⟨he, hw⟩ => ⟨_, he, by subst hw; exact RowKit.Below.refl _ _, fun pl => ?_⟩
  rw [intsOf_bytes, intsOf_bytes]
  exact bool_rel _ _ _ _
theorem digV_mono : ∀ (l : List UInt8) (n m : Nat), digV l n = some m → n ≤ m
  | [], n, m, h => by cases h; exact Nat.le_refl _
  | b :: r, n, m, h => by
    simp only [digV] at h
    split at h <;> first | (cases h; done) | skip
    have := digV_mono r _ m h
    omega
theorem digV_parse : ∀ (l : List UInt8) (n m : Nat), digV l n = some m → n < 18446744073709551616 → Lib.parseUintM 18446744073709551615 n l = if m < 18446744073709551616 then .ok m else .range
  | [], n, m, h, hn => by
    cases h
    rw [if_pos hn]; rfl
  | b :: r, n, m, h, hn => by
    simp only [digV] at h
    split at h <;> first | (cases h; done) | skip
    rename_i hd
    have hge := digV_mono r _ m h
    simp only [Lib.parseUintM]
    rw [if_pos hd]
    by_cases h1 : 1844674407370955162 ≤ n
    · rw [if_pos h1, if_neg (by omega)]
    · rw [if_neg h1]
      by_cases h2 : 18446744073709551615 < n * 10 + (b.toNat - 48)
      · rw [if_pos h2, if_neg (by omega)]
      · rw [if_neg h2]
        exact digV_parse r _ m h (by omega)
theorem puint_ok {f te : Nat} (hf : FnOk P f)
    (h1 : ∀ (s : ByteArray) (u : Nat) (w : World), s.size ≤ 281474976710656 → Lib.parseUintB 64 s.data.toList = .ok u → Calls P f #[.string s, .int .i64 10, .int .i64 64] w fun e w' => e = .returned (.tuple #[.int .u64 u, .nilIface]) ∧ RowKit.Below w.heap.size w w')
    (h2 : ∀ (s : ByteArray) (w : World) (g : Gh), s.size ≤ 281474976710656 → KnownOk w g → Lib.parseUintB 64 s.data.toList = .range → Calls P f #[.string s, .int .i64 10, .int .i64 64] w fun e w' => (∃ p, e = .returned (.tuple #[.int .u64 18446744073709551615, .iface te p])) ∧ RowKit.Below w.heap.size w w') : PrimOk P f (primPure (puintF te)) := by
  refine primPure_ok hf fun xs d vals w g hl hx hv _ hk => ?_
  unfold puintF at hx
  split at hx <;> first | (cases hx; done) | skip
  rename_i s a b
  split at hx <;> first | (cases hx; done) | skip
  rename_i hc
  obtain ⟨rfl, rfl, hne, hlen⟩ := hc
  obtain ⟨m, hm, rfl⟩ := map_some' hx
  obtain ⟨v1, v2, v3, rfl⟩ := arr3 (vals := vals) (by simpa using hl.symm)
  obtain ⟨t, e1, rfl⟩ := strV (hv 0 (by simp))
  have e2 := intV (hv 1 (by simp))
  have e3 := intV (hv 2 (by simp))
  simp only [List.getElem_toArray, List.getElem_cons_zero, List.getElem_cons_succ] at e1 e2 e3
  subst e1 e2 e3
  have hsz : t.size ≤ 281474976710656 := by rw [Lib.size_eq]; exact hlen
  have hp : Lib.parseUintB 64 t.data.toList = if m < 18446744073709551616 then .ok m else .range := by
    unfold Lib.parseUintB
    rw [if_neg hne]
    exact digV_parse _ 0 m hm (by omega)
  by_cases hlt : m < 18446744073709551616
  · rw [if_pos hlt] at hp ⊢
    exact (h1 t m w hsz hp).mono fun e w' ⟨he, hb⟩ => ⟨_, he, hb, fun pl => tup2 (int_rel _ _ _ _ _) (.v _ _ _ .nili)⟩
  · rw [if_neg hlt] at hp ⊢
    exact (h2 t w g hsz hk hp).mono fun e w' ⟨⟨p, he⟩, hb⟩ => ⟨_, he, hb, fun pl => tup2 (int_rel _ _ _ _ _) (.ifc _ _ _ _ (.undef _ _))⟩
theorem digsN_eq : ∀ (k n : Nat), n < 10 ^ k → 0 < k → digsN k n = Lib.decDigits n
  | 0, n, _, h => by omega
  | k + 1, n, h, _ => by
    rw [Lib.decDigits]
    simp only [digsN]
    by_cases hn : n < 10
    · rw [if_pos hn, dif_pos hn]
    · rw [if_neg hn, dif_neg hn]
      have hk : 0 < k := by
        cases k with
        | zero => simp at h; omega
        | succ k => omega
      rw [digsN_eq k (n / 10) (by rw [Nat.pow_succ] at h; omega) hk]
theorem futoa_ok {f : Nat} (hf : FnOk P f) (hc : ∀ (n : Nat) (w : World), n < 18446744073709551616 → (∀ p ∈ Known.bl, w.heap[p.1]? = some p.2) →
    Calls P f #[.int .u64 n, .int .i64 10] w fun e w' => e = .returned (.string ⟨(Lib.decDigits n).toArray⟩) ∧ RowKit.Below w.heap.size w w') : PrimOk P f (primPure futoaF) := by
  refine primPure_ok hf fun xs d vals w g hl hx hv _ hk => ?_
  unfold futoaF at hx
  split at hx <;> first | (cases hx; done) | skip
  rename_i n b
  split at hx <;> cases hx
  rename_i hn
  obtain ⟨rfl, hn0, hn1⟩ := hn
  obtain ⟨v1, v2, rfl⟩ := arr2 (vals := vals) (by simpa using hl.symm)
  have e1 := intV (hv 0 (by simp))
  have e2 := intV (hv 1 (by simp))
  simp only [List.getElem_toArray, List.getElem_cons_zero, List.getElem_cons_succ] at e1 e2
  subst e1 e2
  obtain ⟨k, rfl⟩ : ∃ k : Nat, n = k := ⟨n.toNat, by omega⟩
  refine (hc k w (by omega) (fun p hp => (hk.2 p hp).2.2)).mono fun e w' ⟨he, hb⟩ => ⟨_, he, hb, fun pl => ?_⟩
  rw [Int.toNat_natCast, digsN_eq 20 k (by omega) (by omega)]
  exact str_rel _ _ _ _
theorem trimOk_of {c s : List UInt8} (h : trimOkB c s = true) : (∀ (j : Nat) b, c[j]? = some b → b.toNat < 128) ∧ c.length < 4294967281 ∧ s.length ≤ 281474976710656 := by
  simp only [trimOkB, Bool.and_eq_true, decide_eq_true_eq, List.all_eq_true] at h
  exact ⟨fun j b hb => h.1.1 b (List.mem_of_getElem? hb), h.1.2, h.2⟩
theorem trim_ok {f : Nat} (hf : FnOk P f) (hc : ∀ (s cs : ByteArray) (w : World), s.size ≤ 281474976710656 → cs.size < 4294967281 → (∀ (j : Nat) b, cs.data.toList[j]? = some b → b.toNat < 128) →
    Calls P f #[.string s, .string cs] w fun e w' => e = .returned (.string ⟨(Lib.trimS s.data.toList cs.data.toList).toArray⟩) ∧ RowKit.Below w.heap.size w w') : PrimOk P f (primPure trimF) := by
  refine primPure_ok hf fun xs d vals w g hl hx hv _ hk => ?_
  unfold trimF at hx
  split at hx <;> first | (cases hx; done) | skip
  rename_i s c
  split at hx <;> cases hx
  rename_i ht
  obtain ⟨t1, t2, t3⟩ := trimOk_of ht
  obtain ⟨v1, v2, rfl⟩ := arr2 (vals := vals) (by simpa using hl.symm)
  obtain ⟨a, e1, rfl⟩ := strV (hv 0 (by simp))
  obtain ⟨b, e2, rfl⟩ := strV (hv 1 (by simp))
  simp only [List.getElem_toArray, List.getElem_cons_zero, List.getElem_cons_succ] at e1 e2
  subst e1 e2
  refine (hc a b w (by rw [Lib.size_eq]; exact t3) (by rw [Lib.size_eq]; exact t2) t1).mono fun e w' ⟨he, hb⟩ => ⟨_, he, hb, fun pl => ?_⟩
  exact str_rel _ _ _ _
theorem trimR_ok {f : Nat} (hf : FnOk P f) (hc : ∀ (s cs : ByteArray) (w : World), s.size ≤ 281474976710656 → cs.size < 4294967281 → (∀ (j : Nat) b, cs.data.toList[j]? = some b → b.toNat < 128) →
    Calls P f #[.string s, .string cs] w fun e w' => e = .returned (.string ⟨(Lib.trimRightS s.data.toList cs.data.toList).toArray⟩) ∧ RowKit.Below w.heap.size w w') : PrimOk P f (primPure trimRF) := by
  refine primPure_ok hf fun xs d vals w g hl hx hv _ hk => ?_
  unfold trimRF at hx
  split at hx <;> first | (cases hx; done) | skip
  rename_i s c
  split at hx <;> cases hx
  rename_i ht
  obtain ⟨t1, t2, t3⟩ := trimOk_of ht
  obtain ⟨v1, v2, rfl⟩ := arr2 (vals := vals) (by simpa using hl.symm)
  obtain ⟨a, e1, rfl⟩ := strV (hv 0 (by simp))
  obtain ⟨b, e2, rfl⟩ := strV (hv 1 (by simp))
  simp only [List.getElem_toArray, List.getElem_cons_zero, List.getElem_cons_succ] at e1 e2
  subst e1 e2
  refine (hc a b w (by rw [Lib.size_eq]; exact t3) (by rw [Lib.size_eq]; exact t2) t1).mono fun e w' ⟨he, hb⟩ => ⟨_, he, hb, fun pl => ?_⟩
  exact str_rel _ _ _ _
theorem cut_ok {f : Nat} {m : Int} (hf : FnOk P f) (hm : (0, 0, Value.int .i64 m) ∈ Known.gl) (hc : ∀ (s sep : ByteArray) (w : World), s.size < 4294967281 → w.cell? ⟨0, 0, none⟩ = some (.int .i64 m) →
    Calls P f #[.string s, .string sep] w fun e w' => e = .returned (.tuple #[.string ⟨(Lib.cut s.data.toList sep.data.toList).1.toArray⟩, .string ⟨(Lib.cut s.data.toList sep.data.toList).2.1.toArray⟩, .bool (Lib.cut s.data.toList sep.data.toList).2.2]) ∧ ∃ n, w' = w.drewN n) : PrimOk P f (primPure cutF) := by
  refine primPure_ok hf fun xs d vals w g hl hx hv _ hk => ?_
  unfold cutF at hx
  split at hx <;> first | (cases hx; done) | skip
  rename_i s c t
  split at hx <;> cases hx
  rename_i hlen
  obtain ⟨v1, v2, rfl⟩ := arr2 (vals := vals) (by simpa using hl.symm)
  obtain ⟨a, e1, rfl⟩ := strV (hv 0 (by simp))
  obtain ⟨b, e2, hbt⟩ := strV (hv 1 (by simp))
  simp only [List.getElem_toArray, List.getElem_cons_zero, List.getElem_cons_succ] at e1 e2
  subst e1 e2
  refine (hc a b w (by rw [Lib.size_eq]; exact hlen) (hk.1 _ hm).2).mono fun e w' ⟨he, n, hw⟩ => ?_
  subst hw
  refine ⟨_, he, ⟨rfl, rfl, rfl, Nat.le_refl _, fun _ _ => rfl⟩, fun pl => ?_⟩
  rw [hbt]
  have hix := ixS_idx c t a.data.toList
  unfold Lib.cut cutV
  rw [hix]
  cases ixS (c :: t) a.data.toList with
  | none =>
    simp only [show ¬ (0 : Int) ≤ -1 by decide, if_false]
    exact tup3 (str_rel _ _ _ _) (str_rel _ _ _ _) (bool_rel _ _ _ _)
  | some i =>
    simp only [Int.natCast_nonneg, if_true, Int.toNat_natCast]
    exact tup3 (str_rel _ _ _ _) (str_rel _ _ _ _) (bool_rel _ _ _ _)
theorem token_ok {f : Nat} (hf : FnOk P f) (hc : ∀ (s : ByteArray) (w : World), Calls P f #[.string s] w fun e w' => e = .returned (.bool (decide (1 ≤ s.data.toList.length ∧ s.data.toList.length ≤ 64) && s.data.toList.all tokB)) ∧ RowKit.Below w.heap.size w w') : PrimOk P f (primPure tokenF) := by
  refine primPure_ok hf fun xs d vals w g hl hx hv _ hk => ?_
  unfold tokenF at hx
  split at hx <;> first | (cases hx; done) | skip
  rename_i s
  cases hx
  obtain ⟨v1, rfl⟩ := arr1 (vals := vals) (by simpa using hl.symm)
  obtain ⟨a, e1, rfl⟩ := strV (hv 0 (by simp))
  simp only [List.getElem_toArray, List.getElem_cons_zero] at e1
  subst e1
  exact (hc a w).mono fun e w' ⟨he, hb⟩ => ⟨_, he, hb, fun pl => bool_rel _ _ _ _⟩
theorem seq_ok {f fc : Nat} {t1 t2 t3 : TypeId} (hf : FnOk P f) (hc : ∀ (s t : ByteArray) (w : World), Calls P f #[.string s, .string t] w fun e w' =>
    e = .returned (.func (.func fc) #[] #[.pointer (some ⟨w.heap.size + 1, 0, none⟩), .pointer (some ⟨w.heap.size, 0, none⟩), .pointer (some ⟨w.heap.size + 2, 0, none⟩)]) ∧
    w' = ((w.alloc (.cells #[.string s] t1)).alloc (.cells #[.string t] t2)).alloc (.cells #[.int .i64 0] t3)) : PrimOk P f (primSeq fc) := by
  intro args st r h
  unfold primSeq at h
  split at h <;> first | (cases h; done) | skip
  rename_i s t fr st
  cases h
  refine ⟨addB_len _ (by simp), hf, fun vals w g hl hv hS hown => ?_⟩
  obtain ⟨v1, v2, rfl⟩ := arr2 (vals := vals) (by simpa using hl.symm)
  obtain ⟨a, e1, rfl⟩ := strOfD (hv 0 (by simp))
  obtain ⟨b, e2, rfl⟩ := strOfD (hv 1 (by simp))
  simp only [List.getElem_toArray, List.getElem_cons_zero, List.getElem_cons_succ] at e1 e2
  subst e1 e2
  let bl : Blk := .row [.v (.str a.data.toList)]
  let w1 := w.alloc (.cells #[.string a] t1)
  let w2 := w1.alloc (.cells #[.string b] t2)
  let w3 := w2.alloc (.cells #[.int .i64 0] t3)
  have hG1 := Gh.grow_blk (o := .cells #[.string a] t1) 1 1 hS (addB_none (fr :: st) bl)
  let g1 := g.blk (addB (fr :: st) bl).2 w.heap.size 1 1
  have hbe1 : g1.be (addB (fr :: st) bl).2 = w.heap.size := by simp [g1, Gh.blk]
  have hsz1 : g1.sz (addB (fr :: st) bl).2 = 1 := by simp [g1, Gh.blk]
  have hS1 : RelS w1 g1 (addB (fr :: st) bl).1 := by
    refine hS.new_any (addB_none (fr :: st) bl) (getB_addB (fr :: st) bl) ⟨by simp [Gh.blk], fun i hi => ?_⟩
    have hi0 : i = 0 := by simpa using hi
    subst hi0
    refine ⟨by rw [hsz1]; rfl, fun j hj => ?_⟩
    have hj0 : j = 0 := by simpa [cellsOf, cellsV] using hj
    subst hj0
    refine ⟨rfl, rfl, .string a, ?_, ?_, .v _ _ _ (.str a)⟩
    · rw [hbe1, World.cell?_alloc_new, Nat.zero_mul]; rfl
    · rw [hbe1, World.frozen?_alloc_new]
  have hG2 := Gh.grow_new (o := .cells #[.string b] t2) (L := 1) (p := none) hS1 (by simp) 0
  rw [drewN_zero] at hG2
  let g2 := g1.new w1.heap.size 1 none
  have hS2 : RelS w2 g2 (addB (fr :: st) bl).1 := hG2.relS hS1 (fun r => Iff.rfl)
  have hG3 := Gh.grow_new (o := .cells #[.int .i64 0] t3) (L := 1) (p := none) hS2 (by simp) 0
  rw [drewN_zero] at hG3
  let g3 := g2.new w2.heap.size 1 none
  have hS3 : RelS w3 g3 (addB (fr :: st) bl).1 := hG3.relS hS2 (fun r => Iff.rfl)
  have z1 : w1.heap.size = w.heap.size + 1 := by simp [w1]
  have z2 : w2.heap.size = w.heap.size + 2 := by simp [w2, w1]
  refine (hc a b w).mono fun e w' ⟨he, hw⟩ => ?_
  subst hw
  refine ⟨_, g3, he, ((hG1.ext hS).trans (hG2.ext hS1)).trans (hG3.ext hS2), hS3, ?_, fun b' p hb => ?_⟩
  · have key : ∀ (x : V) (v : Value) (bk : Nat), x.isCell = true → bk < w3.heap.size → 1 ≤ g3.L bk → w3.cell? ⟨bk, 0, none⟩ = some v → RelV w3 g3.L x v → RelD w3 g3 (fun _ => .nil) (.va [x] 0) (.pointer (some ⟨bk, 0, none⟩)) := fun x v bk hx _ hL hv hr => by
      have := RelD.va (w := w3) (g := g3) (fun _ => .nil) [x] 0 bk 0 (fun _ => v) (fun j hj => by
        have hj0 : j = 0 := by simpa using hj
        subst hj0
        exact hL) (fun j hj => by simp at hj; subst hj; simpa using hv) (fun j hj => by simp at hj; subst hj; exact hx) (fun j hj => by simp at hj; subst hj; exact hr)
      simpa using this
    have L2 : g3.L (w.heap.size + 1) = 1 := by
      show (g2.new w2.heap.size 1 none).L _ = 1
      simp only [Gh.new]
      rw [if_neg (by omega)]
      show (g1.new w1.heap.size 1 none).L _ = 1
      simp only [Gh.new]
      rw [if_pos (by omega)]
    have L3 : g3.L (w.heap.size + 2) = 1 := by
      show (g2.new w2.heap.size 1 none).L _ = 1
      simp only [Gh.new]
      rw [if_pos (by omega)]
    have c2 : w3.cell? ⟨w.heap.size + 1, 0, none⟩ = some (.string b) := by
      have h1 : w2.cell? ⟨w.heap.size + 1, 0, none⟩ = some (.string b) := by rw [← z1]; exact World.cell?_alloc_new ..
      rw [← h1]
      exact (cell_heap (hG3.heap _ (by omega)) 0).1
    have c3 : w3.cell? ⟨w.heap.size + 2, 0, none⟩ = some (.int .i64 0) := by rw [← z2]; exact World.cell?_alloc_new ..
    have p1 : RelD w3 g3 (fun _ => .nil) (.ptr (addB (fr :: st) bl).2 0 0) (.pointer (some ⟨w.heap.size, 0, none⟩)) := by
      have := RelD.ptr (w := w3) (g := g3) (fun _ => .nil) (addB (fr :: st) bl).2 0 0 (.inr rfl)
      have hb3 : g3.be (addB (fr :: st) bl).2 = w.heap.size := hbe1
      rw [hb3, Nat.zero_mul] at this
      exact this
    refine RelD.clo _ _ _ _ #[] _ rfl rfl (fun i hi => by simp at hi) (fun i hi => ?_)
    have : i = 0 ∨ i = 1 ∨ i = 2 := by simp at hi; omega
    rcases this with rfl | rfl | rfl
    · exact key _ _ _ rfl (by simp [w3, z2]) (by omega) c2 (.str b)
    · exact p1
    · exact key _ _ _ rfl (by simp [w3, z2]) (by omega) c3 (.int _ _)
  · have hb : (g2.new w2.heap.size 1 none).own b' = some p := hb
    simp only [Gh.new] at hb
    split at hb
    · cases hb
    have hb : (g1.new w1.heap.size 1 none).own b' = some p := hb
    simp only [Gh.new] at hb
    split at hb
    · cases hb
    have hb : (g.blk (addB (fr :: st) bl).2 w.heap.size 1 1).own b' = some p := hb
    simp only [Gh.blk] at hb
    split at hb
    · cases hb
    exact .inl (hown b' p hb)
end
end Go.Q
