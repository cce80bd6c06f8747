/- What the abstract machine's data say of the program's memory, and that it goes on holding. No condition. -/
import Derived.Test.YtmbdamompcdolaaDoorEvB
import Derived.Deep.AppendSrc
import Derived.Deep.MidRow
import Derived.Laws.MakeOwn
set_option linter.unusedVariables false
set_option linter.unusedSimpArgs false
namespace Go.Q

inductive Pl where
  | env (i : Nat)
  | tmp (j k : Nat)
  | cell (r : Ref) (i j : Nat)
  | res (k : Nat)
  | nil
deriving DecidableEq

/-- What is known beside the world: below which offset a block is never written again; which blocks may be written; who may append to which block; where the store's blocks lie, how many cells an element has, and how many elements there are; which references stand. -/
structure Gh where
  L : Nat → Nat
  M : Nat → Prop
  own : Nat → Option Pl
  be : Ref → Nat
  sz : Ref → Nat
  n : Ref → Nat
  live : Ref → Prop

inductive RelV (w : World) (L : Nat → Nat) : V → Value → Prop
  | bool (b) : RelV w L (.bool b) (.bool b)
  | int (k n) : RelV w L (.int k n) (.int k n)
  | str (s : ByteArray) : RelV w L (.str s.data.toList) (.string s)
  | slc0 (sz a c) : RelV w L (.slc sz []) (.slice a 0 c)
  | slc (sz : Nat) (xs : List V) (b o c : Nat) (f : Nat → Nat → Value) (hc : xs.length ≤ c)
      (hs : ∀ i (h : i < xs.length), (cellsV xs[i]).length = sz)
      (hL : ∀ i j, i < xs.length → j < sz → o + i * sz + j < L b)
      (hv : ∀ i j, i < xs.length → j < sz → w.cell? ⟨b, o + i * sz + j, none⟩ = some (f i j))
      (hk : ∀ i (h : i < xs.length) j (hj : j < (cellsV xs[i]).length), ((cellsV xs[i])[j]).isCell = true)
      (hr : ∀ i (h : i < xs.length) j (hj : j < (cellsV xs[i]).length), RelV w L (cellsV xs[i])[j] (f i j)) :
      RelV w L (.slc sz xs) (.slice (some ⟨b, o, none⟩) xs.length c)
  | agg (xs : List V) (cs : Array Value) (hl : xs.length = cs.size) (hk : ∀ i (h : i < xs.length), xs[i].isCell = true)
      (hr : ∀ i (h : i < xs.length), RelV w L xs[i] (cs[i]'(hl ▸ h))) : RelV w L (.agg xs) (.agg cs)
  | nilp : RelV w L .nilp (.pointer none)
  | nili : RelV w L .nili .nilIface
  | nilf : RelV w L .nilf .nilFunc
  | nilm : RelV w L .nilm (.map none)
  | iface (t x v) (h : RelV w L x v) : RelV w L (.iface t x) (.iface t v)
  | fn (f) : RelV w L (.fn f) (.func (.func f) #[] #[])
  | pt (xs : List V) (b o : Nat) (f : Nat → Value) (hL : ∀ j, j < xs.length → o + j < L b)
      (hv : ∀ j, j < xs.length → w.cell? ⟨b, o + j, none⟩ = some (f j)) (hk : ∀ j (h : j < xs.length), xs[j].isCell = true)
      (hr : ∀ j (h : j < xs.length), RelV w L xs[j] (f j)) : RelV w L (.pt xs) (.pointer (some ⟨b, o, none⟩))

theorem RelV.mono {w w' : World} {L L' : Nat → Nat} (hc : ∀ b o, o < L b → w'.cell? ⟨b, o, none⟩ = w.cell? ⟨b, o, none⟩) (hL : ∀ b, L b ≤ L' b)
    {x : V} {v : Value} (h : RelV w L x v) : RelV w' L' x v := by
  induction h with
  | bool b => exact .bool b
  | int k n => exact .int k n
  | str s => exact .str s
  | slc0 sz a c => exact .slc0 sz a c
  | slc sz xs b o c f h1 h2 h3 h4 h5 h6 ih =>
    exact .slc sz xs b o c f h1 h2 (fun i j hi hj => Nat.lt_of_lt_of_le (h3 i j hi hj) (hL b)) (fun i j hi hj => by rw [hc b _ (h3 i j hi hj)]; exact h4 i j hi hj) h5 ih
  | agg xs cs hl hk hr ih => exact .agg xs cs hl hk ih
  | nilp => exact .nilp
  | nili => exact .nili
  | nilf => exact .nilf
  | nilm => exact .nilm
  | iface t x v h ih => exact .iface t x v ih
  | fn f => exact .fn f
  | pt xs b o f h1 h2 h3 h4 ih =>
    exact .pt xs b o f (fun j hj => Nat.lt_of_lt_of_le (h1 j hj) (hL b)) (fun j hj => by rw [hc b _ (h1 j hj)]; exact h2 j hj) h3 ih

/-- the right to append: no room, or the room behind it is the place's -/
def Spare (w : World) (g : Gh) (p : Pl) (z : Nat) : Value → Prop
  | .slice a n c => n = c ∨ ∃ b o, a = some ⟨b, o, none⟩ ∧ g.own b = some p ∧ g.L b = o + n * z ∧ n ≤ c ∧
      ∀ j, j < o + c * z → (w.cell? ⟨b, j, none⟩).isSome = true ∧ w.frozen? ⟨b, j, none⟩ = false
  | _ => False

def D.isCell : D → Bool
  | .v x => x.isCell
  | .agg _ => false
  | .tup _ => false
  | .undef => false
  | _ => true

inductive RelD (w : World) (g : Gh) : (Nat → Pl) → D → Value → Prop
  | v (pl x v) (h : RelV w g.L x v) : RelD w g pl (.v x) v
  | nils (pl z) : RelD w g pl (.nils z) (.slice none 0 0)
  | lin (pl z xs v) (h : RelV w g.L (.slc z xs) v) (hs : Spare w g (pl 0) z v) : RelD w g pl (.lin z xs) v
  | own (pl r z off len x c ad) (hl : g.live r) (hc : len ≤ c ∧ (x = true → off + c ≤ g.n r)) (hz : g.sz r = z) (ha : len ≠ 0 → ad = ⟨g.be r, off * z, none⟩) : RelD w g pl (.own r z off len x) (.slice (some ad) len c)
  | arr (pl r i off len c ad) (hl : g.live r) (hc : len ≤ c) (ha : len ≠ 0 → ad = ⟨g.be r, i * g.sz r + off, none⟩) : RelD w g pl (.arr r i off len) (.slice (some ad) len c)
  | ptr (pl r i off) (hl : g.live r) : RelD w g pl (.ptr r i off) (.pointer (some ⟨g.be r, i * g.sz r + off, none⟩))
  | va (pl) (cs : List V) (off b o : Nat) (f : Nat → Value) (hL : ∀ j, j < cs.length → o + j < g.L b)
      (hv : ∀ j, j < cs.length → w.cell? ⟨b, o + j, none⟩ = some (f j)) (hk : ∀ j (h : j < cs.length), cs[j].isCell = true)
      (hr : ∀ j (h : j < cs.length), RelV w g.L cs[j] (f j)) : RelD w g pl (.va cs off) (.pointer (some ⟨b, o + off, none⟩))
  | map (pl r) (hl : g.live r) : RelD w g pl (.map r) (.map (some (g.be r)))
  | clo (pl f) (fs cs : List D) (vf vc : Array Value) (h1 : fs.length = vf.size) (h2 : cs.length = vc.size)
      (hf : ∀ i (h : i < fs.length), RelD w g (fun _ => .nil) fs[i] (vf[i]'(h1 ▸ h))) (hc : ∀ i (h : i < cs.length), RelD w g (fun _ => .nil) cs[i] (vc[i]'(h2 ▸ h))) :
      RelD w g pl (.clo f fs cs) (.func (.func f) vf vc)
  | ifc (pl t d v) (h : RelD w g (fun _ => .nil) d v) : RelD w g pl (.ifc t d) (.iface t v)
  | agg (pl) (ds : List D) (cs : Array Value) (hl : ds.length = cs.size) (hk : ∀ i (h : i < ds.length), ds[i].isCell = true)
      (hr : ∀ i (h : i < ds.length), RelD w g (fun _ => pl i) ds[i] (cs[i]'(hl ▸ h))) : RelD w g pl (.agg ds) (.agg cs)
  | tup (pl) (ds : List D) (cs : Array Value) (hl : ds.length = cs.size)
      (hr : ∀ i (h : i < ds.length), RelD w g (fun _ => pl i) ds[i] (cs[i]'(hl ▸ h))) : RelD w g pl (.tup ds) (.tuple cs)
  | undef (pl v) : RelD w g pl .undef v

/-- what goes on of all that is readable -/
structure Keeps (w w' : World) (g g' : Gh) : Prop where
  cell : ∀ b o, o < g.L b → w'.cell? ⟨b, o, none⟩ = w.cell? ⟨b, o, none⟩
  L : ∀ b, g.L b ≤ g'.L b
/-- .. of a place -/
def KeepsPl (w w' : World) (g g' : Gh) (pl : Nat → Pl) : Prop :=
  ∀ b k, g.own b = some (pl k) → g'.own b = some (pl k) ∧ g'.L b = g.L b ∧
    ∀ o, ((w.cell? ⟨b, o, none⟩).isSome = true → (w'.cell? ⟨b, o, none⟩).isSome = true) ∧ (w.frozen? ⟨b, o, none⟩ = false → w'.frozen? ⟨b, o, none⟩ = false)
def KeepsRef (g g' : Gh) (r : Ref) : Prop := g'.live r ∧ g'.be r = g.be r ∧ g'.sz r = g.sz r ∧ g'.n r = g.n r

theorem Spare.mono {w w' : World} {g g' : Gh} {pl : Nat → Pl} {z : Nat} {v : Value} (h : Spare w g (pl 0) z v) (hp : KeepsPl w w' g g' pl) : Spare w' g' (pl 0) z v := by
  cases v <;> first | exact h.elim | skip
  rename_i a n c
  rcases h with h | ⟨b, o, h1, h2, h3, h4, h5⟩
  · exact .inl h
  · obtain ⟨h6, h7, h8⟩ := hp b 0 h2
    exact .inr ⟨b, o, h1, h6, h7.trans h3, h4, fun j hj => ⟨(h8 j).1 (h5 j hj).1, (h8 j).2 (h5 j hj).2⟩⟩

theorem RelD.mono {w w' : World} {g g' : Gh} {pl : Nat → Pl} {d : D} {v : Value} (h : RelD w g pl d v) (hk : Keeps w w' g g')
    (hn : ∀ b, g.own b ≠ some .nil) (hp : KeepsPl w w' g g' pl) (hr : ∀ r, g.live r → KeepsRef g g' r) : RelD w' g' pl d v := by
  induction h with
  | v pl x v h => exact .v pl x v (h.mono hk.cell hk.L)
  | nils pl z => exact .nils pl z
  | lin pl z xs v h hs => exact .lin pl z xs v (h.mono hk.cell hk.L) (hs.mono hp)
  | own pl r z off len x c ad hl hc hz ha => obtain ⟨a, b, c', d'⟩ := hr r hl; exact .own pl r z off len x c ad a (by rw [d']; exact hc) (c'.trans hz) (fun h => by rw [b]; exact ha h)
  | arr pl r i off len c ad hl hc ha => obtain ⟨a, b, c', _⟩ := hr r hl; exact .arr pl r i off len c ad a hc (fun h => by rw [b, c']; exact ha h)
  | ptr pl r i off hl => obtain ⟨a, b, c', _⟩ := hr r hl; rw [← b, ← c']; exact .ptr pl r i off a
  | va pl cs off b o f h1 h2 h3 h4 =>
    exact .va pl cs off b o f (fun j hj => Nat.lt_of_lt_of_le (h1 j hj) (hk.L b)) (fun j hj => by rw [hk.cell b _ (h1 j hj)]; exact h2 j hj) h3 (fun j hj => (h4 j hj).mono hk.cell hk.L)
  | map pl r hl => obtain ⟨a, b, c', _⟩ := hr r hl; rw [← b]; exact .map pl r a
  | clo pl f fs cs vf vc h1 h2 hf hc ih1 ih2 =>
    exact .clo pl f fs cs vf vc h1 h2 (fun i hi => ih1 i hi fun b k hb => absurd hb (hn b)) (fun i hi => ih2 i hi fun b k hb => absurd hb (hn b))
  | ifc pl t d v h ih => exact .ifc pl t d v (ih fun b k hb => absurd hb (hn b))
  | agg pl ds cs hl hk' hr' ih => exact .agg pl ds cs hl hk' (fun i hi => ih i hi fun b k hb => hp b i hb)
  | tup pl ds cs hl hr' ih => exact .tup pl ds cs hl (fun i hi => ih i hi fun b k hb => hp b i hb)
  | undef pl v => exact .undef pl v

/-- A value that is no right: whatever the place. -/
def noLin : D → Bool
  | .lin _ _ => false
  | .agg ds => ds.all fun d => match d with | .lin _ _ => false | _ => true
  | .tup _ => false
  | .clo _ _ _ => false
  | .ifc _ _ => false
  | _ => true

/-- a key -/
def KeyR : V → Value → Prop
  | .int k n, .int k' n' => k = k' ∧ n = n'
  | .str s, .string b => b.data.toList = s
  | .bool a, .bool b => a = b
  | _, _ => False
/-- A block of the store, as it lies in memory. -/
def RelB (w : World) (g : Gh) (r : Ref) : Blk → Prop
  | .row xs => xs.length = g.n r ∧ ∀ i (h : i < xs.length), (cellsOf xs[i]).length = g.sz r ∧ ∀ j (hj : j < (cellsOf xs[i]).length), ((cellsOf xs[i])[j]).isCell = true ∧ refsBelow (r.lvl + 1) ((cellsOf xs[i])[j]) = true ∧
      ∃ v, w.cell? ⟨g.be r, i * g.sz r + j, none⟩ = some v ∧ w.frozen? ⟨g.be r, i * g.sz r + j, none⟩ = false ∧ RelD w g (fun _ => .cell r i j) (cellsOf xs[i])[j] v
  | .mp es => ∃ arr clock, w.heap[g.be r]? = some (.map arr clock) ∧ arr.size = es.length ∧ ∀ i (h : i < es.length) (h' : i < arr.size),
      KeyR es[i].1 arr[i].key ∧ mapV (r.lvl + 1) es[i].2 = true ∧ RelD w g (fun _ => .cell r i 0) es[i].2 arr[i].val

theorem mapV_refs {n : Nat} {d : D} (h : mapV n d = true) : refsBelow n d = true := by
  unfold mapV at h
  split at h <;> first | (cases h; done) | exact h
/-- cells that are known, and never written: of variables of the program -/
class Known where
  gl : List (Nat × Nat × Value)
  bl : List (Nat × Obj)
def KnownOk [Known] (w : World) (g : Gh) : Prop := (∀ p ∈ Known.gl, p.2.1 < g.L p.1 ∧ w.cell? ⟨p.1, p.2.1, none⟩ = some p.2.2) ∧ ∀ p ∈ Known.bl, ¬ g.M p.1 ∧ p.1 < w.heap.size ∧ w.heap[p.1]? = some p.2
structure RelS [Known] (w : World) (g : Gh) (st : St) : Prop where
  live : ∀ r, g.live r ↔ ∃ b, getB st r = some b
  blk : ∀ r b, getB st r = some b → RelB w g r b
  be : ∀ r, g.live r → g.M (g.be r) ∧ g.L (g.be r) = 0 ∧ g.own (g.be r) = none ∧ g.be r < w.heap.size
  inj : ∀ r r', g.live r → g.live r' → g.be r = g.be r' → r = r'
  own : ∀ b p, g.own b = some p → g.M b ∧ b < w.heap.size
  nil : ∀ b, g.own b ≠ some .nil
  fresh : ∀ b, w.heap.size ≤ b → g.L b = 0 ∧ ¬ g.M b
  gl : KnownOk w g
theorem gl_keep [Known] {w w' : World} {g g' : Gh} (hc : ∀ b o, o < g.L b → w'.cell? ⟨b, o, none⟩ = w.cell? ⟨b, o, none⟩) (hL : ∀ b, g.L b ≤ g'.L b) (hs : w.heap.size ≤ w'.heap.size)
    (hb : ∀ b, b < w.heap.size → ¬ g.M b → ¬ g'.M b ∧ w'.heap[b]? = w.heap[b]?) (h : KnownOk w g) : KnownOk w' g' := by
  refine ⟨fun p hp => ?_, fun p hp => ?_⟩
  · obtain ⟨h1, h2⟩ := h.1 p hp
    exact ⟨Nat.lt_of_lt_of_le h1 (hL _), by rw [hc _ _ h1]; exact h2⟩
  · obtain ⟨h1, h2, h3⟩ := h.2 p hp
    obtain ⟨h4, h5⟩ := hb _ h2 h1
    exact ⟨h4, Nat.lt_of_lt_of_le h2 hs, by rw [h5]; exact h3⟩

/-- What comes of the world. -/
structure Ext (w w' : World) (g g' : Gh) : Prop where
  os : w'.os = w.os
  tape : w'.tape = w.tape
  output : w'.output = w.output
  size : w.heap.size ≤ w'.heap.size
  cell : ∀ b o, o < g.L b → w'.cell? ⟨b, o, none⟩ = w.cell? ⟨b, o, none⟩
  L : ∀ b, g.L b ≤ g'.L b
  old : ∀ b, b < w.heap.size → ¬ g.M b → w'.heap[b]? = w.heap[b]? ∧ g'.L b = g.L b ∧ ¬ g'.M b
  refs : ∀ r, g.live r → KeepsRef g g' r

theorem Ext.refl (w : World) (g : Gh) : Ext w w g g := ⟨rfl, rfl, rfl, Nat.le_refl _, fun _ _ _ => rfl, fun _ => Nat.le_refl _, fun _ _ h => ⟨rfl, rfl, h⟩, fun r h => ⟨h, rfl, rfl, rfl⟩⟩
theorem Ext.trans {w w1 w2 : World} {g g1 g2 : Gh} (h : Ext w w1 g g1) (k : Ext w1 w2 g1 g2) : Ext w w2 g g2 :=
  ⟨k.os.trans h.os, k.tape.trans h.tape, k.output.trans h.output, Nat.le_trans h.size k.size,
   fun b o ho => (k.cell b o (Nat.lt_of_lt_of_le ho (h.L b))).trans (h.cell b o ho), fun b => Nat.le_trans (h.L b) (k.L b),
   fun b hb hm => by
    obtain ⟨a1, a2, a3⟩ := h.old b hb hm
    obtain ⟨b1, b2, b3⟩ := k.old b (Nat.lt_of_lt_of_le hb h.size) a3
    exact ⟨b1.trans a1, b2.trans a2, b3⟩, fun r hr => by
    obtain ⟨a1, a2, a3, a4⟩ := h.refs r hr
    obtain ⟨b1, b2, b3, b4⟩ := k.refs r a1
    exact ⟨b1, b2.trans a2, b3.trans a3, b4.trans a4⟩⟩
theorem Ext.keeps {w w' : World} {g g' : Gh} (h : Ext w w' g g') : Keeps w w' g g' := ⟨h.cell, h.L⟩
end Go.Q
