/- The abstract machine: pure data, references, the slim code, and what it computes. Definitions alone; no condition. -/
import Derived.Orders
import Derived.Deep.AppendSrc
import Derived.Deep.MidRow
import Derived.Laws.MakeOwn
set_option linter.all false
namespace Go.Q

inductive V where
  | bool (b : Bool)
  | int (k : IntKind) (n : Int)
  | str (s : List UInt8)
  | slc (sz : Nat) (xs : List V)
  | agg (xs : List V)
  | nilp | nili | nilf | nilm
  | iface (t : Nat) (x : V)
  | fn (f : Nat)
  | pt (xs : List V)
deriving Inhabited

structure Ref where
  lvl : Nat
  k : Nat
deriving DecidableEq, Inhabited

inductive D where
  | v (x : V)
  | nils (sz : Nat)
  | lin (sz : Nat) (xs : List V)
  | own (r : Ref) (sz off len : Nat) (x : Bool)
  | arr (r : Ref) (i off len : Nat)
  | ptr (r : Ref) (i off : Nat)
  | va (cs : List V) (off : Nat)
  | map (r : Ref)
  | clo (f : Nat) (fs cs : List D)
  | ifc (t : Nat) (d : D)
  | agg (ds : List D)
  | tup (ds : List D)
  | undef
instance : Inhabited D := ⟨.undef⟩

inductive Blk where
  | row (xs : List D)
  | mp (es : List (V × D))
  | it (s : List UInt8) (pos : Nat)
  | dead

abbrev St := List (List Blk)

def getB : St → Ref → Option Blk
  | [], _ => none
  | fr :: st, r => if r.lvl = st.length then fr[r.k]? else getB st r
def setB : St → Ref → Blk → St
  | [], _, _ => []
  | fr :: st, r, b => if r.lvl = st.length then fr.set r.k b :: st else fr :: setB st r b
def addB : St → Blk → St × Ref
  | [], b => ([[b]], ⟨0, 0⟩)
  | fr :: st, b => ((fr ++ [b]) :: st, ⟨st.length, fr.length⟩)
def addBot : St → Blk → St × Ref
  | [], b => ([[b]], ⟨0, 0⟩)
  | fr :: st, b => match st with
    | [] => ([fr ++ [b]], ⟨0, fr.length⟩)
    | f2 :: st2 => let q := addBot (f2 :: st2) b; (fr :: q.1, q.2)

def cellsV : V → List V
  | .agg xs => xs
  | x => [x]
def cellsOf : D → List D
  | .v (.agg xs) => xs.map .v
  | .agg ds => ds
  | d => [d]
def allV : List D → Option (List V)
  | [] => some []
  | .v x :: r => (allV r).map (x :: ·)
  | _ :: _ => none
def mkAgg1 (ds : List D) : Option (List V) → D
  | some xs => .v (.agg xs)
  | none => .agg ds
def mkAgg (ds : List D) : D := mkAgg1 ds (allV ds)

def cp1 : D → D
  | .lin z xs => .v (.slc z xs)
  | d => d
def cpA : D → D
  | .lin z xs => .v (.slc z xs)
  | .agg ds => mkAgg (ds.map cp1)
  | .tup _ => .undef
  | d => d
def cp : D → D
  | .v x => .v x
  | .lin z xs => .v (.slc z xs)
  | .agg ds => mkAgg (ds.map cp1)
  | .tup ds => .tup (ds.map cpA)
  | d => d

def toV1 : D → Option V
  | .v x => some x
  | .nils z => some (.slc z [])
  | .lin z xs => some (.slc z xs)
  | _ => none
def toVs : List D → Option (List V)
  | [] => some []
  | d :: r => (toV1 d).bind fun x => (toVs r).map (x :: ·)
def toV : D → Option V
  | .v x => some x
  | .nils z => some (.slc z [])
  | .lin z xs => some (.slc z xs)
  | .agg ds => (toVs ds).map .agg
  | _ => none
def toVL : List D → Option (List V)
  | [] => some []
  | d :: r => (toV d).bind fun x => (toVL r).map (x :: ·)
def rowV (sz off len : Nat) : Option Blk → Option V
  | some (.row xs) => if off + len ≤ xs.length then (toVL ((xs.drop off).take len)).map (.slc sz) else none
  | _ => none
def arrV (off len : Nat) : Option D → Option V
  | some d => if off + len ≤ (cellsOf d).length then (toVL (((cellsOf d).drop off).take len)).map (.slc 1) else none
  | none => none
def rowAt (i : Nat) : Option Blk → Option D
  | some (.row xs) => xs[i]?
  | _ => none
def rdV (st : St) : D → Option V
  | .own r z off len _ => rowV z off len (getB st r)
  | .arr r i off len => arrV off len (rowAt i (getB st r))
  | .v x => some x
  | .nils z => some (.slc z [])
  | .lin z xs => some (.slc z xs)
  | d => toV d
def rdVs (st : St) : List D → Option (List V)
  | [] => some []
  | d :: r => (rdV st d).bind fun x => (rdVs st r).map (x :: ·)
def isRow : D → Bool
  | .own .. => true
  | .arr .. => true
  | _ => false
def anyRow : List D → Bool
  | [] => false
  | d :: r => isRow d || anyRow r

inductive Opd where
  | x (i : Nat)
  | t (j : Nat)
  | c (d : D)

inductive Kd where
  | b | s | p | m | f | i
  | g (ks : List Nat)
deriving DecidableEq

inductive SOp where
  | mov (x : Opd)
  | take (x : Opd)
  | pick (c a b : Opd)
  | alloc (esc : Bool) (z : D)
  | box (esc : Bool) (x : Opd)
  | build (zs : List D) (ps : List (Nat × Nat × Opd))
  | lit (sz : Nat) (xs : List Opd)
  | load (sz : Option Nat) (a : Opd)
  | loadR (y : Opd) (sz : Option Nat) (a : Opd)
  | store (sz : Nat) (a x : Opd)
  | storeS (sz : Nat) (a x : Opd) (ys : List Opd)
  | bin (op : BinOp) (x y : Opd)
  | eq (k : Kd) (neg : Bool) (x y : Opd)
  | un (op : UnOp) (x : Opd)
  | cvi (k : IntKind) (x : Opd)
  | s2b (x : Opd)
  | s2o (x : Opd)
  | b2s (x : Opd)
  | sub (sz : Nat) (x : Opd) (lo hi mx : Option Opd)
  | subA (n : Nat) (x : Opd) (lo hi mx : Option Opd)
  | nck (x : Opd)
  | fa (off : Nat) (x : Opd)
  | fld (off : Nat) (sz : Option Nat) (x : Opd)
  | ia (sz : Nat) (x i : Opd)
  | iaA (len sz : Nat) (x i : Opd)
  | idx (x i : Opd)
  | idxA (len sz : Nat) (asz : Option Nat) (x i : Opd)
  | len (x : Opd)
  | lens (x : Opd)
  | subs (x : Opd) (lo hi : Option Opd)
  | cst (d : D)
  | subl (sz : Nat) (x lo : Opd)
  | app (sz bytes : Nat) (x y : Opd)
  | cpy (sz : Nat) (x y : Opd)
  | make (sz bytes : Nat) (z : D) (n cap : Opd)
  | call (gen : Bool) (f : Nat) (xs : List Opd)
  | callv (f : Opd) (xs : List Opd)
  | mkf (f : Nat) (fs cs : List Opd)
  | mki (t : Nat) (x : Opd)
  | ext (i : Nat) (x : Opd)
  | s2a (n : Nat) (x : Opd)
  | mx (x y : Opd)
  | mn (x y : Opd)
  | clr (sz : Nat) (z : D) (x : Opd)
  | capn (x : Opd)
  | mkmap (esc : Bool)
  | look (kd : Nat) (ok : Bool) (z : D) (x k : Opd)
  | mupd (kd : Nat) (x k v : Opd)
  | lenm (x : Opd)
  | die
  | loadT (a : Opd) (ys : List Opd)
  | callB (f : Nat) (a : Opd) (ys : List (Opd × Nat × Option Nat))
  | loadF (y : Opd) (off : Nat) (sz : Option Nat) (a : Opd)
  | litO (sz : Nat) (xs : List Opd)
  | appO (sz bytes : Nat) (x y : Opd) (ps : List Opd)
  | callP (f : Nat) (xs : List Opd)
  | litD (xs : List Opd)

inductive Dst where
  | none | tmp | var (i : Nat)

structure SOper where
  g : Option (Nat × Bool)
  dst : Dst
  op : SOp
abbrev T (op : SOp) : SOper := ⟨none, .tmp, op⟩
abbrev W (i : Nat) (op : SOp) : SOper := ⟨none, .var i, op⟩
abbrev N (op : SOp) : SOper := ⟨none, .none, op⟩
abbrev GT (j : Nat) (b : Bool) (op : SOp) : SOper := ⟨some (j, b), .tmp, op⟩
abbrev GW (j : Nat) (b : Bool) (i : Nat) (op : SOp) : SOper := ⟨some (j, b), .var i, op⟩
abbrev GN (j : Nat) (b : Bool) (op : SOp) : SOper := ⟨some (j, b), .none, op⟩
abbrev ki (n : Int) : Opd := .c (.v (.int .i64 n))
abbrev kk (k : IntKind) (n : Int) : Opd := .c (.v (.int k n))
abbrev kb (b : Bool) : Opd := .c (.v (.bool b))
abbrev kn (sz : Nat) : Opd := .c (.nils sz)

inductive SCode where
  | skip
  | ret
  | exit (id : Nat)
  | ops (l : List SOper)
  | ifs (l : List SOper) (c : Opd) (a b : SCode)
  | seq (a b : SCode)
  | block (id : Nat) (a : SCode)
  | loop (kill : List Nat) (a : SCode)
  | clone (d x sz bytes : Nat)
  | nilc (d x sz bytes : Nat) (a : SCode)
  | grow (d n sz bytes : Nat)
  | range (k f x : Nat) (ps : List Nat) (a b : SCode)
  | frame (a : SCode)

inductive SRes where
  | var (i : Nat)
  | cell (sz : Option Nat) (i : Nat)

structure SFunc where
  np : Nat
  nv : Nat
  res : List SRes
  code : SCode
  keep : Bool := false

def getT : List D → Nat → D
  | [], _ => .undef
  | d :: _, 0 => d
  | _ :: l, n + 1 => getT l n
def raw (env ts : List D) : Opd → D
  | .x i => getT env i
  | .t j => getT ts j
  | .c d => d
def rd (env ts : List D) (x : Opd) : D := cp (raw env ts x)
def takeD (env ts : List D) : Opd → D → D × List D × List D
  | .x i, .lin z xs => (.lin z xs, env.set i (.v (.slc z xs)), ts)
  | .t j, .lin z xs => (.lin z xs, env, ts.set j (.v (.slc z xs)))
  | .t j, .tup ds => (.tup ds, env, ts.set j .undef)
  | _, d => (cp d, env, ts)
def takeO (env ts : List D) (x : Opd) : D × List D × List D := takeD env ts x (raw env ts x)

def eqVs : List Nat → List V → List V → Option Bool
  | [], [], [] => some true
  | 0 :: ks, .bool a :: xs, .bool b :: ys => (eqVs ks xs ys).map (a == b && ·)
  | 1 :: ks, .int k a :: xs, .int k' b :: ys => if k = k' then (eqVs ks xs ys).map (a == b && ·) else none
  | 2 :: ks, .str a :: xs, .str b :: ys => (eqVs ks xs ys).map (a == b && ·)
  | _, _, _ => none

def eqD : Kd → D → D → Option Bool
  | .b, .v (.bool a), .v (.bool b) => some (a == b)
  | .g ks, .v (.agg xs), .v (.agg ys) => eqVs ks xs ys
  | .s, .nils _, .nils _ => some true
  | .s, .v (.slc _ (_ :: _)), .nils _ => some false
  | .s, .own .., .nils _ => some false
  | .s, .arr .., .nils _ => some false
  | .p, .v .nilp, .v .nilp => some true
  | .p, .ptr .., .v .nilp => some false
  | .p, .va .., .v .nilp => some false
  | .p, .v (.pt _), .v .nilp => some false
  | .f, .v .nilf, .v .nilf => some true
  | .f, .v (.fn _), .v .nilf => some false
  | .f, .clo .., .v .nilf => some false
  | .i, .v .nili, .v .nili => some true
  | .i, .v (.iface _ _), .v .nili => some false
  | .i, .ifc _ _, .v .nili => some false
  | .m, .v .nilm, .v .nilm => some true
  | .m, .map _, .v .nilm => some false
  | _, _, _ => none

def binI (k : IntKind) (a b : Int) : BinOp → Option V
  | .add => some (.int k (k.wrap (a + b)))
  | .sub => some (.int k (k.wrap (a - b)))
  | .mul => some (.int k (k.wrap (a * b)))
  | .quo => if b = 0 then none else some (.int k (k.wrap (a.tdiv b)))
  | .rem => if b = 0 then none else some (.int k (a.tmod b))
  | .and => some (.int k (k.wrap (BitVec.ofInt k.bits a &&& BitVec.ofInt k.bits b).toNat))
  | .or => some (.int k (k.wrap (BitVec.ofInt k.bits a ||| BitVec.ofInt k.bits b).toNat))
  | .xor => some (.int k (k.wrap (BitVec.ofInt k.bits a ^^^ BitVec.ofInt k.bits b).toNat))
  | .andNot => some (.int k (k.wrap (BitVec.ofInt k.bits a &&& ~~~BitVec.ofInt k.bits b).toNat))
  | .eql => some (.bool (a == b))
  | .neq => some (.bool (a != b))
  | .lss => some (.bool (decide (a < b)))
  | .leq => some (.bool (decide (a ≤ b)))
  | .gtr => some (.bool (decide (a > b)))
  | .geq => some (.bool (decide (a ≥ b)))
  | .shl => none
  | .shr => none
def shI (k : IntKind) (a b : Int) : BinOp → Option V
  | .shl => if b < 0 then none else some (.int k (k.wrap (a * 2 ^ min b.toNat k.bits)))
  | .shr => if b < 0 then none else some (.int k (a.fdiv (2 ^ min b.toNat k.bits)))
  | _ => none
def isSh : BinOp → Bool
  | .shl => true
  | .shr => true
  | _ => false
def binS (a b : List UInt8) : BinOp → Option V
  | .add => if a.length + b.length ≤ 4611686018427387904 then some (.str (a ++ b)) else none
  | .eql => some (.bool (a == b))
  | .neq => some (.bool (!(a == b)))
  | .lss => some (.bool (Op.bytesLess a b))
  | .leq => some (.bool (Op.bytesLess a b || a == b))
  | .gtr => some (.bool (!(Op.bytesLess a b || a == b)))
  | .geq => some (.bool (!Op.bytesLess a b))
  | _ => none
def opBin (op : BinOp) : D → D → Option D
  | .v (.int k a), .v (.int k' b) => if isSh op = true then (shI k a b op).map .v else if k = k' then (binI k a b op).map .v else none
  | .v (.str a), .v (.str b) => (binS a b op).map .v
  | _, _ => none
def opUn : UnOp → D → Option D
  | .neg, .v (.int k n) => some (.v (.int k (k.wrap (0 - n))))
  | .xor, .v (.int k n) => some (.v (.int k (k.wrap (BitVec.ofInt k.bits (if k.signed then -1 else k.max) ^^^ BitVec.ofInt k.bits n).toNat)))
  | .not, .v (.bool b) => some (.v (.bool (!b)))
  | _, _ => none

def asN : D → Option Int
  | .v (.int _ n) => some n
  | _ => none
def boolD : D → Option Bool
  | .v (.bool t) => some t
  | _ => none
def ixOf (d : D) (n : Nat) : Option Nat := (asN d).bind fun i => if 0 ≤ i ∧ i < (n : Int) then some i.toNat else none
def bndOf (d : D) (n : Nat) : Option Nat := (asN d).bind fun i => if 0 ≤ i ∧ i ≤ (n : Int) then some i.toNat else none
def bndHi (n : Nat) : Option D → Option Nat
  | some d => bndOf d n
  | none => some n
def bndLo (n : Nat) : Option D → Option Nat
  | some d => bndOf d n
  | none => some 0
def bnds (len : Nat) (lo hi : Option D) : Option (Nat × Nat) := (bndHi len hi).bind fun h => (bndLo h lo).map fun l => (l, h)

def loadC (cs : List D) (off : Nat) : Option Nat → Option D
  | none => (cs[off]?).map cp
  | some n => if off + n ≤ cs.length then some (mkAgg (((cs.drop off).take n).map cp1)) else none
def loadVs (cs : List V) (off : Nat) : Option Nat → Option D
  | none => (cs[off]?).map .v
  | some n => if off + n ≤ cs.length then some (.v (.agg ((cs.drop off).take n))) else none
def opLoad (st : St) (sz : Option Nat) : D → Option D
  | .ptr r i off => (rowAt i (getB st r)).bind fun d => loadC (cellsOf d) off sz
  | .va cs off => loadVs cs off sz
  | .v (.pt cs) => loadVs cs 0 sz
  | _ => none

def isAggD : D → Bool
  | .v (.agg _) => true
  | .agg _ => true
  | _ => false
def putAt (cs : List D) (off : Nat) (new : List D) : List D := cs.take off ++ new ++ cs.drop (off + new.length)
def unCells (was : D) (cs : List D) : D := if isAggD was = true then mkAgg cs else cs.headD .undef
def newElem (sz off : Nat) (d x : D) : D :=
  if sz = (cellsOf d).length ∧ isAggD d = isAggD x then x else unCells d (putAt (cellsOf d) off (cellsOf x))
mutual
def refsBelow (n : Nat) : D → Bool
  | .own r _ _ _ _ => decide (r.lvl < n)
  | .arr r _ _ _ => decide (r.lvl < n)
  | .ptr r _ _ => decide (r.lvl < n)
  | .map r => decide (r.lvl < n)
  | .clo _ fs cs => refsBelows n fs && refsBelows n cs
  | .ifc _ d => refsBelow n d
  | .agg ds => refsBelows n ds
  | .tup ds => refsBelows n ds
  | .v _ => true
  | .nils _ => true
  | .lin _ _ => true
  | .va _ _ => true
  | .undef => true
def refsBelows (n : Nat) : List D → Bool
  | [] => true
  | d :: r => refsBelow n d && refsBelows n r
end
def goodD : D → Bool
  | .tup _ => false
  | .undef => false
  | _ => true
def stElem (st : St) (sz : Nat) (r : Ref) (i off : Nat) (x : D) (xs : List D) : Option St :=
  (xs[i]?).bind fun d => if (cellsOf x).length = sz ∧ off + sz ≤ (cellsOf d).length ∧ goodD x = true ∧ refsBelow (r.lvl + 1) x = true then some (setB st r (.row (xs.set i (newElem sz off d x)))) else none
def rowOf : Option Blk → Option (List D)
  | some (.row xs) => some xs
  | _ => none
def opStore (st : St) (sz : Nat) (x : D) : D → Option St
  | .ptr r i off => (rowOf (getB st r)).bind (stElem st sz r i off x)
  | _ => none

def ldTE (st : St) (r : Ref) (i off : Nat) (xs : List D) : Option (D × St) :=
  (xs[i]?).bind fun d => ((cellsOf d)[off]?).map fun c => (c, setB st r (.row (xs.set i (unCells d ((cellsOf d).set off (cp1 c))))))
def opLoadT (st : St) : D → Option (D × St)
  | .ptr r i off => (rowOf (getB st r)).bind (ldTE st r i off)
  | _ => none

def subM (sz : Nat) (xs : List V) (lo hi : Option D) (m : Nat) : Option D :=
  hi.bind fun hd => (bnds m lo (some hd)).map fun q => if q.2 = m then .lin sz ((xs.take q.2).drop q.1) else .v (.slc sz ((xs.take q.2).drop q.1))
def opSubs (lo hi : Option D) : D → Option D
  | .v (.str s) => (bnds s.length lo hi).map fun q => .v (.str ((s.take q.2).drop q.1))
  | _ => none
def opSub (sz : Nat) (lo hi : Option D) : Option D → D → Option D
  | none, .v (.slc z xs) => if z = sz then (bnds xs.length lo hi).map fun q => .v (.slc z ((xs.take q.2).drop q.1)) else none
  | some m, .v (.slc z xs) => if z = sz then (bndOf m xs.length).bind (subM z xs lo hi) else none
  | none, .nils z => (bnds 0 lo hi).map fun _ => .nils z
  | none, .own r z off len x => if z = sz then (bnds len lo hi).map fun q => .own r z (off + q.1) (q.2 - q.1) x else none
  | none, .arr r i off len => if sz = 1 then (bnds len lo hi).map fun q => .arr r i (off + q.1) (q.2 - q.1) else none
  | _, _ => none
def opSubA (n : Nat) (lo hi : Option D) : Option D → D → Option D
  | none, .ptr r i off => (bnds n lo hi).map fun q => .arr r i (off + q.1) (q.2 - q.1)
  | none, .va cs off => if off + n ≤ cs.length then (bnds n lo hi).map fun q => .v (.slc 1 ((((cs.drop off).take n).take q.2).drop q.1)) else none
  | none, .v (.pt cs) => if n ≤ cs.length then (bnds n lo hi).map fun q => .v (.slc 1 (((cs.take n).take q.2).drop q.1)) else none
  | _, _ => none

def opFa (off : Nat) : D → Option D
  | .ptr r i o => some (.ptr r i (o + off))
  | .va cs o => some (.va cs (o + off))
  | .v (.pt cs) => some (.va cs off)
  | _ => none
def vaOf (sz : Nat) (e : V) : Option D := if (cellsV e).length = sz then some (.va (cellsV e) 0) else none
def opIa (sz : Nat) (i : D) : D → Option D
  | .v (.slc _ xs) => (ixOf i xs.length).bind fun n => (xs[n]?).bind (vaOf sz)
  | .own r z off len _ => if z = sz then (ixOf i len).map fun n => .ptr r (off + n) 0 else none
  | .arr r j off len => if sz = 1 then (ixOf i len).map fun n => .ptr r j (off + n) else none
  | _ => none
def opIaA (len sz : Nat) (i x : D) : Option D := (ixOf i len).bind fun n => opFa (n * sz) x
def opIdx (i : D) : D → Option D
  | .v (.str s) => (ixOf i s.length).bind fun n => (s[n]?).map fun b => .v (.int .u8 b.toNat)
  | _ => none
def opFld (off : Nat) (sz : Option Nat) (x : D) : Option D := if isAggD x = true then loadC (cellsOf x) off sz else none
def opIdxA (len sz : Nat) (asz : Option Nat) (i x : D) : Option D := (ixOf i len).bind fun n => opFld (n * sz) asz x
def capOf : D → Option Nat
  | .nils _ => some 0
  | _ => none
def lenOf : D → Option Nat
  | .v (.slc _ xs) => some xs.length
  | .nils _ => some 0
  | .own _ _ _ n _ => some n
  | .arr _ _ _ n => some n
  | _ => none
def slcOf (sz : Nat) : V → Option (List V)
  | .slc z xs => if z = sz then some xs else none
  | _ => none
def elems (sz : Nat) (st : St) : D → Option (List V)
  | .v (.str s) => if sz = 1 then some (s.map fun b => .int .u8 b.toNat) else none
  | .v (.slc z xs) => if z = sz then some xs else none
  | d => (rdV st d).bind (slcOf sz)
def bytesOf : List V → Option (List UInt8)
  | [] => some []
  | .int .u8 n :: r => if 0 ≤ n ∧ n < 256 then (bytesOf r).map (UInt8.ofNat n.toNat :: ·) else none
  | _ :: _ => none
def maxB : Nat := 140737488355328
def opApp (sz bytes : Nat) (ys : List V) : D → Option D
  | .nils _ => if ys.length * bytes ≤ maxB then some (.lin sz ys) else none
  | .lin z xs => if z = sz ∧ (xs.length + ys.length) * bytes ≤ maxB then some (.lin z (xs ++ ys)) else none
  | _ => none
def addAt : St → Nat → Blk → Option (St × Ref)
  | [], _, _ => none
  | fr :: st, l, b => if l = st.length then some ((fr ++ [b]) :: st, ⟨st.length, fr.length⟩) else (addAt st l b).map fun q => (fr :: q.1, q.2)
def appRow (sz bytes : Nat) (st : St) (ys : List V) (r : Ref) (len : Nat) (vs : List V) : Option (D × St) :=
  if vs.length = len ∧ len ≠ 0 ∧ (len + ys.length) * bytes ≤ maxB then (addAt (setB st r .dead) r.lvl (.row ((vs ++ ys).map .v))).map fun q => (.own q.2 sz 0 (len + ys.length) false, q.1) else none
def opAppO (sz bytes : Nat) (st : St) : List V → D → Option (D × St)
  | [], .own r z off len x => some (.own r z off len x, st)
  | y :: ys, .nils _ => if (y :: ys).length * bytes ≤ maxB then some (.own (addB st (.row ((y :: ys).map .v))).2 sz 0 (y :: ys).length false, (addB st (.row ((y :: ys).map .v))).1) else none
  | y :: ys, .own r z 0 len _ => if z = sz then (rowOf (getB st r)).bind fun xs => (allV xs).bind (appRow sz bytes st (y :: ys) r len) else none
  | _, _ => none
def D.one1 : D → Bool
  | .v (.agg _) => false
  | .v _ => true
  | .agg _ => false
  | .tup _ => false
  | .undef => false
  | .lin _ _ => false
  | _ => true
def cellL1 (n : Nat) : List D → Bool
  | [] => true
  | d :: l => d.one1 && refsBelow n d && cellL1 n l
def sepA1 (st : St) (d : D) : D → Bool
  | .ptr r' _ _ => (match d with | .own r _ _ _ _ => decide (r' ≠ r) | _ => true) && (getB st r').isSome
  | .va _ _ => true
  | .v (.pt _) => true
  | _ => false
def sepA (st : St) (d : D) : List D → Bool
  | [] => true
  | x :: l => sepA1 st d x && sepA st d l
def opNck : D → Option D
  | .ptr r i off => some (.ptr r i off)
  | .va cs off => some (.va cs off)
  | .v (.pt cs) => some (.v (.pt cs))
  | _ => none
def opSubl (sz : Nat) (l : D) : D → Option D
  | .lin z xs => if z = sz then (bnds xs.length (some l) none).map fun q => .lin z ((xs.take q.2).drop q.1) else none
  | _ => none
def cpyRow (st : St) (ys : List V) (r : Ref) (off len : Nat) (xs : List D) : Option (Nat × St) :=
  if ys.length ≠ 0 ∧ ys.length ≤ len ∧ off + len ≤ xs.length then some (ys.length, setB st r (.row (putAt xs off (ys.map .v)))) else none
def opCpy (sz : Nat) (st : St) (ys : List V) : D → Option (Nat × St)
  | .own r z off len _ => if z = sz then (rowOf (getB st r)).bind (cpyRow st ys r off len) else none
  | _ => none
def fillD : List D → List (Nat × Nat × D) → Option (List D)
  | cs, [] => some cs
  | cs, (off, sz, d) :: r => if (cellsOf d).length = sz ∧ off + sz ≤ cs.length ∧ goodD d = true then fillD (putAt cs off (cellsOf d)) r else none
mutual
def flat : V → Bool
  | .bool _ => true
  | .int _ _ => true
  | .str _ => true
  | .nilp => true
  | .nili => true
  | .nilf => true
  | .nilm => true
  | .fn _ => true
  | .agg xs => flats xs
  | .slc _ _ => false
  | .iface _ _ => false
  | .pt _ => false
def flats : List V → Bool
  | [] => true
  | x :: r => flat x && flats r
end
def flatD : D → Bool
  | .v x => flat x
  | _ => false
def flatDs : List D → Bool
  | [] => true
  | d :: r => flatD d && flatDs r
def flatR : D → Bool
  | .v x => flat x
  | .tup ds => flatDs ds
  | _ => false
def V.isCell : V → Bool
  | .agg _ => false
  | _ => true
def cells1 : List V → Bool
  | [] => true
  | x :: r => x.isCell && cells1 r
def s2aD (n : Nat) : D → Option D
  | .v (.slc z xs) => if z = 1 ∧ n ≤ xs.length ∧ cells1 xs = true then some (.va (xs.take n) 0) else none
  | .arr r i off len => if n ≤ len then some (.ptr r i off) else none
  | _ => none
def maxD : D → D → Option D
  | .v (.int k a), .v (.int _ b) => some (.v (.int k (if b > a then b else a)))
  | _, _ => none
def minD : D → D → Option D
  | .v (.int k a), .v (.int _ b) => some (.v (.int k (if b < a then b else a)))
  | _, _ => none
def strD : D → Option (List UInt8)
  | .v (.str s) => some s
  | _ => none
def szs (sz : Nat) : List V → Bool
  | [] => true
  | x :: r => decide ((cellsV x).length = sz) && szs sz r
def ifcD (t : Nat) : D → D
  | .v x => .v (.iface t x)
  | d => .ifc t d
def mkfD (f : Nat) : List D → List D → D
  | [], [] => .v (.fn f)
  | fs, cs => .clo f fs cs

def keyEq : V → V → Option Bool
  | .int k a, .int k' b => if k = k' then some (a == b) else none
  | .str a, .str b => some (a == b)
  | .bool a, .bool b => some (a == b)
  | _, _ => none
def mfind (k : V) : List (V × D) → Option (Option D)
  | [] => some none
  | (k', d) :: es => (keyEq k k').bind fun t => if t = true then some (some d) else mfind k es
def mput (k : V) (d : D) : List (V × D) → Option (List (V × D))
  | [] => some [(k, d)]
  | (k', d') :: es => (keyEq k k').bind fun t => if t = true then some ((k', d) :: es) else (mput k d es).map ((k', d') :: ·)
def mpOf : Option Blk → Option (List (V × D))
  | some (.mp es) => some es
  | _ => none
def mapOf (st : St) : D → Option (List (V × D))
  | .map r => mpOf (getB st r)
  | .v .nilm => some []
  | _ => none
def keyOfD (kd : Nat) : D → Option V
  | .v (.bool b) => if kd = 0 then some (.bool b) else none
  | .v (.int k n) => if kd = 1 then some (.int k n) else none
  | .v (.str s) => if kd = 2 then some (.str s) else none
  | _ => none
def lookD (ok : Bool) (z : D) : Option D → D
  | some d => if ok = true then .tup [d, .v (.bool true)] else d
  | none => if ok = true then .tup [z, .v (.bool false)] else z
def mapV (n : Nat) : D → Bool
  | .v (.agg _) => false
  | .agg _ => false
  | .tup _ => false
  | .undef => false
  | .lin _ _ => false
  | d => refsBelow n d
def mupdD (st : St) (k : V) (d : D) : D → Option St
  | .map r => if mapV (r.lvl + 1) d = true then (mpOf (getB st r)).bind fun es => (mput k d es).map fun es' => setB st r (.mp es') else none
  | _ => none

def clrRow (st : St) (z : D) (r : Ref) (off len : Nat) (xs : List D) : Option St :=
  if off + len ≤ xs.length then some (setB st r (.row (xs.take off ++ (List.replicate len z ++ xs.drop (off + len))))) else none
def opClr (sz : Nat) (z : D) (st : St) : D → Option St
  | .own r z' off len _ => if z' = sz then if len = 0 then some st else (rowOf (getB st r)).bind (clrRow st z r off len) else none
  | _ => none
def sepD : D → List D → Bool
  | _, [] => true
  | .ptr r i o, .ptr r' _ _ :: ds => decide (r' ≠ r) && sepD (.ptr r i o) ds
  | .ptr r i o, .va _ _ :: ds => sepD (.ptr r i o) ds
  | .ptr r i o, .v (.pt _) :: ds => sepD (.ptr r i o) ds
  | _, _ => false

def sameR : D → D → Bool
  | .ptr r _ _, .ptr r' _ _ => decide (r = r')
  | _, _ => false

mutual
def sameV : V → V → Bool
  | .bool a, .bool b => a == b
  | .int k n, .int k' n' => decide (k = k') && decide (n = n')
  | .str a, .str b => a == b
  | .slc z xs, .slc z' ys => decide (z = z') && sameVs xs ys
  | .agg xs, .agg ys => sameVs xs ys
  | .nilp, .nilp => true
  | .nili, .nili => true
  | .nilf, .nilf => true
  | .nilm, .nilm => true
  | .iface t x, .iface t' y => decide (t = t') && sameV x y
  | .fn f, .fn f' => decide (f = f')
  | .pt xs, .pt ys => sameVs xs ys
  | _, _ => false
def sameVs : List V → List V → Bool
  | [], [] => true
  | x :: xs, y :: ys => sameV x y && sameVs xs ys
  | _, _ => false
end
mutual
def sameD : D → D → Bool
  | .v x, .v y => sameV x y
  | .nils z, .nils z' => decide (z = z')
  | .lin z xs, .lin z' ys => decide (z = z') && sameVs xs ys
  | .own r z o l x, .own r' z' o' l' x' => decide (r = r') && decide (z = z') && decide (o = o') && decide (l = l') && x == x'
  | .arr r i o l, .arr r' i' o' l' => decide (r = r') && decide (i = i') && decide (o = o') && decide (l = l')
  | .ptr r i o, .ptr r' i' o' => decide (r = r') && decide (i = i') && decide (o = o')
  | .va cs o, .va cs' o' => sameVs cs cs' && decide (o = o')
  | .map r, .map r' => decide (r = r')
  | .clo f a b, .clo f' a' b' => decide (f = f') && sameDs a a' && sameDs b b'
  | .ifc t d, .ifc t' d' => decide (t = t') && sameD d d'
  | .agg ds, .agg ds' => sameDs ds ds'
  | .tup ds, .tup ds' => sameDs ds ds'
  | .undef, .undef => true
  | _, _ => false
def sameDs : List D → List D → Bool
  | [], [] => true
  | x :: xs, y :: ys => sameD x y && sameDs xs ys
  | _, _ => false
end
def sameO : Option D → Option D → Bool
  | none, none => true
  | some x, some y => sameD x y
  | _, _ => false
def ldF (st : St) (sz : Option Nat) (off : Nat) : D → Option D
  | .ptr r i o => opLoad st sz (.ptr r i (o + off))
  | _ => none
def sameLs (st st' : St) : List (D × Nat × Option Nat) → Bool
  | [] => true
  | p :: l => sameO (ldF st p.2.2 p.2.1 p.1) (ldF st' p.2.2 p.2.1 p.1) && sameLs st st' l
def sameP (off : Nat) : D → D → Bool
  | .ptr r i o, .ptr r' i' o' => decide (r = r') && decide (i = i') && decide (o' = o + off)
  | _, _ => false

abbrev Run := Nat → List D → St → Option (D × St)
abbrev Rg := D × List D × List D × St

def extL (env ts : List D) (st : St) (i j : Nat) (ds : List D) : D → Rg
  | .lin z xs => (.lin z xs, env, ts.set j (.tup (ds.set i (.v (.slc z xs)))), st)
  | d => (cp d, env, ts, st)
def extD (env ts : List D) (st : St) (i : Nat) : Opd → D → Option Rg
  | .t j, .tup ds => (ds[i]?).map (extL env ts st i j ds)
  | _, .tup ds => (ds[i]?).map fun d => (cp d, env, ts, st)
  | _, _ => none
def makeD (env ts : List D) (st : St) (sz bytes : Nat) (z : D) (a b : Int) : Option Rg :=
  if 0 ≤ a ∧ b = a ∧ a * bytes ≤ maxB ∧ (cellsOf z).length = sz then some (.own (addB st (.row (List.replicate a.toNat z))).2 sz 0 a.toNat true, env, ts, (addB st (.row (List.replicate a.toNat z))).1)
  else if a = 0 ∧ 0 ≤ b ∧ b * bytes ≤ maxB then some (.lin sz [], env, ts, st) else none
def backD (rows : Bool) (st : St) : D × St → Option (D × St)
  | (r, []) => if rows = true then (if flatR r = true then some (r, st) else none) else some (r, st)
  | _ => none

section
variable (R : Run)

def opCall (gen : Bool) (f : Nat) (ds : List D) (st : St) : Option (D × St) :=
  if gen = true then R f ds st
  else (rdVs st ds).bind fun xs => (R f (xs.map .v) []).bind (backD (anyRow ds) st)
def callV (ds : List D) (st : St) : D → Option (D × St)
  | .v (.fn g) => R g ds st
  | .clo g fs cs => R g (fs ++ ds ++ cs) st
  | _ => none

def callBe (st : St) (r : Ref) (x : D) : D × St → Option (D × St)
  | (v, [[.row [x']]]) => if flatR v = true ∧ refsBelow 0 x' = true ∧ (cellsOf x').length = (cellsOf x).length then some (v, setB st r (.row [x'])) else none
  | _ => none
def callBr (f : Nat) (st : St) (r : Ref) : List D → Option (D × St)
  | [x] => if refsBelow 0 x = true then (R f [.ptr ⟨0, 0⟩ 0 0] [[.row [x]]]).bind (callBe st r x) else none
  | _ => none
def callBD (f : Nat) (st : St) : D → Option (D × St)
  | .ptr r i off => if i = 0 ∧ off = 0 then (rowOf (getB st r)).bind (callBr R f st r) else none
  | _ => none

def evOp (env ts : List D) (st : St) : SOp → Option Rg
  | .mov x => some (rd env ts x, env, ts, st)
  | .take x => some ((takeO env ts x).1, (takeO env ts x).2.1, (takeO env ts x).2.2, st)
  | .pick c a b => (boolD (rd env ts c)).bind fun t => if t = true then some (rd env ts a, env, ts, st) else some (rd env ts b, env, ts, st)
  | .alloc esc z => if esc = true then if st.length < 2 then none else some (.ptr (addBot st (.row [z])).2 0 0, env, ts, (addBot st (.row [z])).1)
    else some (.ptr (addB st (.row [z])).2 0 0, env, ts, (addB st (.row [z])).1)
  | .box esc x => if goodD (takeO env ts x).1 = false then none else if esc = true then if refsBelow 1 (takeO env ts x).1 = false then none else some (.ptr (addBot st (.row [(takeO env ts x).1])).2 0 0, (takeO env ts x).2.1, (takeO env ts x).2.2, (addBot st (.row [(takeO env ts x).1])).1)
    else some (.ptr (addB st (.row [(takeO env ts x).1])).2 0 0, (takeO env ts x).2.1, (takeO env ts x).2.2, (addB st (.row [(takeO env ts x).1])).1)
  | .build zs ps => (fillD zs (ps.map fun p => (p.1, p.2.1, rd env ts p.2.2))).map fun cs => (mkAgg cs, env, ts, st)
  | .lit sz xs => if anyRow (xs.map (rd env ts)) = true then none else (rdVs st (xs.map (rd env ts))).bind fun ys => if szs sz ys = true then some (.lin sz ys, env, ts, st) else none
  | .load sz a => (opLoad st sz (rd env ts a)).map fun d => (d, env, ts, st)
  | .loadR y sz a => if sameR (rd env ts y) (rd env ts a) = true then (opLoad st sz (rd env ts a)).map fun d => (d, env, ts, st) else none
  | .store sz a x => (opStore st sz (takeO env ts x).1 (rd env ts a)).map fun st' => (.undef, (takeO env ts x).2.1, (takeO env ts x).2.2, st')
  | .storeS sz a x ys => if sepD (rd env ts a) (ys.map (rd env ts)) = true then (opStore st sz (takeO env ts x).1 (rd env ts a)).map fun st' => (.undef, (takeO env ts x).2.1, (takeO env ts x).2.2, st') else none
  | .bin op x y => (opBin op (rd env ts x) (rd env ts y)).map fun d => (d, env, ts, st)
  | .eq k neg x y => (eqD k (rd env ts x) (rd env ts y)).map fun b => (.v (.bool (b != neg)), env, ts, st)
  | .un op x => (opUn op (rd env ts x)).map fun d => (d, env, ts, st)
  | .cvi k x => (asN (rd env ts x)).map fun n => (.v (.int k (k.wrap n)), env, ts, st)
  | .s2b x => (strD (rd env ts x)).map fun s => (.lin 1 (s.map fun b => .int .u8 b.toNat), env, ts, st)
  | .s2o x => (strD (rd env ts x)).map fun s => (.own (addB st (.row (s.map fun b => .v (.int .u8 b.toNat)))).2 1 0 s.length false, env, ts, (addB st (.row (s.map fun b => .v (.int .u8 b.toNat)))).1)
  | .b2s x => (((rdV st (rd env ts x)).bind (slcOf 1)).bind bytesOf).map fun s => (.v (.str s), env, ts, st)
  | .sub sz x lo hi mx => (opSub sz (lo.map (rd env ts)) (hi.map (rd env ts)) (mx.map (rd env ts)) (rd env ts x)).map fun d => (d, env, ts, st)
  | .subA n x lo hi mx => (opSubA n (lo.map (rd env ts)) (hi.map (rd env ts)) (mx.map (rd env ts)) (rd env ts x)).map fun d => (d, env, ts, st)
  | .nck x => (opNck (rd env ts x)).map fun d => (d, env, ts, st)
  | .fa off x => (opFa off (rd env ts x)).map fun d => (d, env, ts, st)
  | .fld off sz x => (opFld off sz (rd env ts x)).map fun d => (d, env, ts, st)
  | .ia sz x i => (opIa sz (rd env ts i) (rd env ts x)).map fun d => (d, env, ts, st)
  | .iaA len sz x i => (opIaA len sz (rd env ts i) (rd env ts x)).map fun d => (d, env, ts, st)
  | .idx x i => (opIdx (rd env ts i) (rd env ts x)).map fun d => (d, env, ts, st)
  | .idxA len sz asz x i => (opIdxA len sz asz (rd env ts i) (rd env ts x)).map fun d => (d, env, ts, st)
  | .len x => (lenOf (rd env ts x)).map fun (n : Nat) => (.v (.int .i64 (n : Int)), env, ts, st)
  | .capn x => (capOf (rd env ts x)).map fun (n : Nat) => (.v (.int .i64 (n : Int)), env, ts, st)
  | .mkmap esc => if esc = true then some (.map (addBot st (.mp [])).2, env, ts, (addBot st (.mp [])).1) else some (.map (addB st (.mp [])).2, env, ts, (addB st (.mp [])).1)
  | .look kd ok z x k => (keyOfD kd (rd env ts k)).bind fun kv => (mapOf st (rd env ts x)).bind fun es => (mfind kv es).map fun r => (lookD ok z r, env, ts, st)
  | .mupd kd x k v => (keyOfD kd (rd env ts k)).bind fun kv => (mupdD st kv (rd env ts v) (rd env ts x)).map fun st' => (.undef, env, ts, st')
  | .lenm x => (mapOf st (rd env ts x)).map fun es => (.v (.int .i64 es.length), env, ts, st)
  | .lens x => (strD (rd env ts x)).map fun s => (.v (.int .i64 s.length), env, ts, st)
  | .subs x lo hi => (opSubs (lo.map (rd env ts)) (hi.map (rd env ts)) (rd env ts x)).map fun d => (d, env, ts, st)
  | .cst d => some (d, env, ts, st)
  | .subl sz x lo => (opSubl sz (rd env ts lo) (takeO env ts x).1).map fun d => (d, (takeO env ts x).2.1, (takeO env ts x).2.2, st)
  | .app sz bytes x y => (elems sz st (rd env ts y)).bind fun ys => (opApp sz bytes ys (takeO env ts x).1).map fun d => (d, (takeO env ts x).2.1, (takeO env ts x).2.2, st)
  | .cpy sz x y => (elems sz st (rd env ts y)).bind fun ys => (opCpy sz st ys (rd env ts x)).map fun q => (.v (.int .i64 q.1), env, ts, q.2)
  | .make sz bytes z n cap => (asN (rd env ts n)).bind fun a => (asN (rd env ts cap)).bind (makeD env ts st sz bytes z a)
  | .call gen f xs => (opCall R gen f (xs.map (rd env ts)) st).map fun q => (q.1, env, ts, q.2)
  | .callv f xs => (callV R (xs.map (rd env ts)) st (rd env ts f)).map fun q => (q.1, env, ts, q.2)
  | .mkf f fs cs => some (mkfD f (fs.map (rd env ts)) (cs.map (rd env ts)), env, ts, st)
  | .mki t x => some (ifcD t (rd env ts x), env, ts, st)
  | .ext i x => extD env ts st i x (raw env ts x)
  | .s2a n x => (s2aD n (rd env ts x)).map fun d => (d, env, ts, st)
  | .mx x y => (maxD (rd env ts x) (rd env ts y)).map fun d => (d, env, ts, st)
  | .mn x y => (minD (rd env ts x) (rd env ts y)).map fun d => (d, env, ts, st)
  | .clr sz z x => (opClr sz z st (rd env ts x)).map fun st' => (.tup [], env, ts, st')
  | .die => none
  | .loadT a ys => if sepD (rd env ts a) (ys.map (rd env ts)) = true then (opLoadT st (rd env ts a)).map fun q => (q.1, env, ts, q.2) else none
  | .callB f a ys => (callBD R f st (rd env ts a)).bind fun q => if sameLs st q.2 (ys.map fun p => (rd env ts p.1, p.2)) = true then some (q.1, env, ts, q.2) else none
  | .loadF y off sz a => if sameP off (rd env ts y) (rd env ts a) = true then (opLoad st sz (rd env ts a)).map fun d => (d, env, ts, st) else none
  | .litO sz xs => if anyRow (xs.map (rd env ts)) = true then none else (rdVs st (xs.map (rd env ts))).bind fun ys => if szs sz ys = true then some (.own (addB st (.row (ys.map .v))).2 sz 0 ys.length true, env, ts, (addB st (.row (ys.map .v))).1) else none
  | .appO sz bytes x y ps => if sepA st (rd env ts x) (ps.map (rd env ts)) = true then (elems sz st (rd env ts y)).bind fun ys => (opAppO sz bytes st ys (rd env ts x)).map fun q => (q.1, env, ts, q.2) else none
  | .litD xs => if cellL1 st.length (xs.map (rd env ts)) = true then some (.own (addB st (.row (xs.map (rd env ts)))).2 1 0 xs.length true, env, ts, (addB st (.row (xs.map (rd env ts)))).1) else none
  | .callP f xs => if anyRow (xs.map (rd env ts)) = true then none else (opCall R false f (xs.map (rd env ts)) st).map fun q => (q.1, env, ts, q.2)

def wantD (b : Bool) : D → Option Bool
  | .v (.bool t) => some (t == b)
  | .tup [] => some false
  | _ => none
def wantO (ts : List D) : Option (Nat × Bool) → Option Bool
  | none => some true
  | some (j, b) => wantD b (getT ts j)
def putD (d : D) (env ts : List D) : Dst → List D × List D
  | .none => (env, .undef :: ts)
  | .tmp => (env, d :: ts)
  | .var i => (env.set i d, .undef :: ts)

def evOps : List SOper → List D → List D → St → Option (List D × List D × St)
  | [], env, ts, st => some (env, ts, st)
  | o :: l, env, ts, st => (wantO ts o.g).bind fun w =>
    if w = true then (evOp R env ts st o.op).bind fun q => evOps l (putD q.1 q.2.1 q.2.2.1 o.dst).1 (putD q.1 q.2.1 q.2.2.1 o.dst).2 q.2.2.2
    else evOps l (putD (.tup []) env ts o.dst).1 (putD (.tup []) env ts o.dst).2 st

inductive Ex where
  | normal | exit (id : Nat) | ret

def upB : St → Blk → Option (St × Ref)
  | fr :: f2 :: st, b => some (fr :: (addB (f2 :: st) b).1, (addB (f2 :: st) b).2)
  | _, _ => none
def cloneD (d sz bytes : Nat) (env : List D) (st : St) (ys : List V) : Option (Ex × List D × St) :=
  if ys.length ≠ 0 ∧ ys.length * bytes ≤ maxB ∧ szs sz ys = true then (upB st (.row (ys.map .v))).map fun q => (.normal, env.set d (.own q.2 sz 0 ys.length false), q.1) else none
def growD (d sz bytes : Nat) (env : List D) (st : St) : D → D → Option (Ex × List D × St)
  | .nils _, .v (.int .i64 n) => if 0 < n ∧ n * (bytes : Int) ≤ (maxB : Int) then some (.normal, env.set d (.lin sz []), st) else none
  | _, _ => none
def isNilV : Option V → Bool
  | some (.slc _ []) => true
  | _ => false
def orUndef : Option V → D
  | some x => .v x
  | none => .undef
def popD (st : St) (n : Nat) : D → D
  | .v x => .v x
  | .nils z => .nils z
  | .lin z xs => .lin z xs
  | .undef => .undef
  | d => if refsBelow n d = true then d else orUndef (rdV st d)
def pop (env : List D) (st : St) : List D × St := (env.map (popD st (st.length - 1)), st.tail)

def killE : List Nat → List D → List D
  | [], env => env
  | i :: l, env => killE l (env.set i .undef)

def idxV : Nat → List V → List (List V)
  | _, [] => []
  | i, x :: xs => [.int .i64 i, x] :: idxV (i + 1) xs
def allK (z : Nat) : D → Option (List (List V))
  | .v (.slc z' xs) => if z' = z ∧ xs.length ≤ maxB then some (idxV 0 xs) else none
  | .nils z' => if z' = z then some [] else none
  | _ => none
def ixS (t : List UInt8) : List UInt8 → Option Nat
  | [] => none
  | b :: l => if t.isPrefixOf (b :: l) = true then some 0 else (ixS t l).map (· + 1)
def piecesN : Nat → List UInt8 → List UInt8 → List (List UInt8)
  | 0, _, _ => []
  | n + 1, t, s => match ixS t s with
    | none => [s]
    | some i => s.take i :: piecesN n t (s.drop (i + t.length))
def nextS (t s : List UInt8) : List UInt8 := match ixS t s with
  | none => s
  | some i => s.drop (i + t.length)
def strB : Option Blk → Option (List UInt8)
  | some (.row [.v (.str s)]) => some s
  | _ => none
def splK (st : St) : List D → Option (Ref × List UInt8 × List UInt8)
  | [.va [.str (c :: t)] 0, .ptr r 0 0, .va [.int .i64 n] 0] => (strB (getB st r)).bind fun s => if n = 0 ∧ s.length < 4294967281 then some (r, c :: t, s) else none
  | _ => none
def iterK (st : St) : Nat → List D → Option (List (List V))
  | 0, cs => (splK st cs).map fun q => (piecesN (q.2.2.length + 1) q.2.1 q.2.2).map fun p => [.str p]
  | z + 1, [d] => (opLoad st none d).bind (allK (z + 1))
  | _, _ => none
def iterU (st : St) : Nat → D → Option (Ref × List UInt8)
  | 0, .clo _ _ cs => (splK st cs).map fun q => (q.1, q.2.1)
  | _, _ => none
def ofLen (n : Nat) (xs : List (List V)) : Option (List (List V)) := if xs.all (fun x => x.length == n) = true then some xs else none
def iterD (st : St) (k f n : Nat) : D → Option (List (List V))
  | .clo f' [] cs => if f' = f then (iterK st k cs).bind (ofLen n) else none
  | _ => none
def setPs : List Nat → List V → List D → List D
  | p :: ps, x :: xs, env => setPs ps xs (env.set p (.v x))
  | _, _, env => env
def nz : D → Bool
  | .lin z _ => z != 0
  | _ => true
def solidB : Blk → Bool
  | .row xs => !xs.isEmpty && xs.all fun d => !(cellsOf d).isEmpty && (cellsOf d).all nz
  | .mp _ => false
  | .it _ _ => false
  | .dead => false
def solid (st : St) : Bool := st.all fun fr => fr.all solidB

abbrev Out := Ex × List D × St
def rgC (K : St → Option Out) (env0 : List D) : Out → Option Out
  | (.normal, _, st) => K st.tail
  | (.ret, _, st) => if solid st.tail = true then some (.ret, env0, st.tail) else none
  | (.exit i, _, st) => if solid st.tail = true then some (.exit i, env0, st.tail) else none
def rgM (B : List D → St → Option Out) : Out → Option Out
  | (.normal, env, st) => if solid st = true then B (env.map cp) st else none
  | _ => none
def rgB (A B : List D → St → Option Out) (env : List D) (st : St) : Option Out := (A env st).bind (rgM B)
def rgT (r : Ref) (t c : List UInt8) : Out → Option Out
  | (.normal, env, st) => if strB (getB st r) = some c then some (.normal, env, setB st r (.row [.v (.str (nextS t c))])) else none
  | o => some o
def rgU (B : List D → St → Option Out) : Option (Ref × List UInt8) → List D → St → Option Out
  | none, env, st => B env st
  | some (r, t), env, st => (strB (getB st r)).bind fun c => (B env st).bind (rgT r t c)
theorem rgU_none (B : List D → St → Option Out) : rgU B none = B := rfl
def rangeN (body : List D → St → Option Out) (ps : List Nat) (env0 : List D) : List (List V) → St → Option Out
  | [], st => if solid st = true then some (.normal, env0, st) else none
  | x :: xs, st => if solid st = true then (body (setPs ps x env0) ([] :: st)).bind (rgC (rangeN body ps env0 xs) env0) else none
def loopN (body : List D → St → Option Out) (kill : List Nat) : Nat → List D → St → Option Out
  | 0, _, _ => none
  | n + 1, env, st => (body env ([] :: st)).bind fun q => match q.1 with
    | .normal => loopN body kill n (pop (killE kill q.2.1) q.2.2).1 (pop (killE kill q.2.1) q.2.2).2
    | e => some (e, (pop (killE kill q.2.1) q.2.2).1, (pop (killE kill q.2.1) q.2.2).2)
def blkD (id : Nat) : Out → Option Out
  | (.exit id', env, st) => if id' = id then some (.normal, env, st) else some (.exit id', env, st)
  | (.normal, env, st) => some (.normal, env, st)
  | (.ret, env, st) => some (.ret, env, st)

def exec (n : Nat) : SCode → List D → St → Option Out
  | .skip, env, st => some (.normal, env, st)
  | .ret, env, st => some (.ret, env, st)
  | .exit id, env, st => some (.exit id, env, st)
  | .ops l, env, st => (evOps R l env [] st).map fun q => (.normal, q.1, q.2.2)
  | .ifs l c a b, env, st => (evOps R l env [] st).bind fun q => (boolD (rd q.1 q.2.1 c)).bind fun t =>
    if t = true then exec n a q.1 q.2.2 else exec n b q.1 q.2.2
  | .seq a b, env, st => (exec n a env st).bind fun q => match q.1 with
    | .normal => exec n b q.2.1 q.2.2
    | e => some (e, q.2.1, q.2.2)
  | .block id a, env, st => (exec n a env st).bind (blkD id)
  | .loop kill a, env, st => loopN (fun env st => exec n a env st) kill n env st
  | .nilc d x sz bytes a, env, st => if isNilV (rdV st (cp (getT env x))) = true then some (.ret, env.set d (.v (.slc sz [])), st) else exec n a env st
  | .frame a, env, st => (exec n a env ([] :: st)).map fun q => (q.1, (pop q.2.1 q.2.2).1, (pop q.2.1 q.2.2).2)
  | .range k f x ps a b, env, st => (iterD st k f ps.length (cp (getT env x))).bind fun xs => rangeN (rgU (rgB (fun env st => exec n a env st) (fun env st => exec n b env st)) (iterU st k (cp (getT env x)))) ps (env.map cp) xs st
  | .grow d n sz bytes, env, st => growD d sz bytes env st (getT env d) (getT env n)
  | .clone d x sz bytes, env, st => ((rdV st (cp (getT env x))).bind (slcOf sz)).bind (cloneD d sz bytes env st)

def resOf (env : List D) (st : St) : SRes → Option D
  | .var i => some (getT env i)
  | .cell sz i => opLoad st sz (cp (getT env i))
def retA (n : Nat) (ds : List D) : Option (List V) → Option D
  | some x => some (.v (.agg x))
  | none => if refsBelows n ds = true then some (.agg (ds.map cp1)) else none
def fullB (e : Nat) : Option Blk → Bool
  | some (.row xs) => decide (e = xs.length)
  | _ => false
def linOf : Bool → V → D
  | true, .slc z xs => .lin z xs
  | _, x => .v x
def frz (st : St) (n : Nat) : D → Option D
  | .own r z off len x => if r.lvl < n then some (.own r z off len x) else (rdV st (.own r z off len x)).map .v
  | .arr r i off len => if r.lvl < n then some (.arr r i off len) else (rdV st (.arr r i off len)).map .v
  | d => some d
def frzs (st : St) (n : Nat) : List D → Option (List D)
  | [] => some []
  | d :: r => (frz st n d).bind fun x => (frzs st n r).map (x :: ·)
def retD (st : St) (n : Nat) : D → Option D
  | .v x => some (.v x)
  | .nils z => some (.lin z [])
  | .lin z xs => some (.lin z xs)
  | .own r z off len x => if r.lvl < n then some (.own r z off len x) else (rdV st (.own r z off len x)).map (linOf (x && fullB (off + len) (getB st r)))
  | .arr r i off len => if r.lvl < n then some (.arr r i off len) else (rdV st (.arr r i off len)).map .v
  | .agg ds => (frzs st n ds).bind fun ds' => retA n ds' (toVs ds')
  | .tup _ => none
  | d => if refsBelow n d = true then some d else none
def isNils : D → Bool
  | .nils _ => true
  | _ => false
def retK (k : Bool) (st : St) (n : Nat) (d : D) : Option D := if k = true ∧ isNils d = true then some d else retD st n d
def retDs (k : Bool) (st : St) (n : Nat) : List D → Option (List D)
  | [] => some []
  | d :: r => (retK k st n d).bind fun x => (retDs k st n r).map (x :: ·)
def resList (env : List D) (st : St) : List SRes → Option (List D)
  | [] => some []
  | r :: l => (resOf env st r).bind fun x => (resList env st l).map (x :: ·)
def oneD (st : St) : List D → Option (D × St)
  | [d] => some (d, st)
  | ds => some (.tup ds, st)
def endD (k : Bool) (res : List SRes) (st : St) (env : List D) (st' : St) : Option (D × St) :=
  (resList env st' res).bind fun ds => (retDs k st' st.length ds).bind (oneD st'.tail)
def finD (k : Bool) (res : List SRes) (st : St) : Out → Option (D × St)
  | (.exit _, _, _) => none
  | (.normal, env, st') => endD k res st env st'
  | (.ret, env, st') => endD k res st env st'
def runF (n : Nat) (F : SFunc) (args : List D) (st : St) : Option (D × St) :=
  if args.length = F.np then (exec R n F.code (args ++ List.replicate (F.nv - F.np) .undef) ([] :: st)).bind (finD F.keep F.res st) else none
end

structure Prg where
  fn : Nat → Option SFunc
  prim : Nat → Option (List D → St → Option (D × St))

def runN (G : Prg) : Nat → Run
  | 0 => fun _ _ _ => none
  | n + 1 => fun f args st => match G.prim f with
    | some F => F args st
    | none => match G.fn f with
      | some F => runF (runN G n) n F args st
      | none => none

class Iters where
  it : List (Nat × Nat)
end Go.Q
namespace Go.Q

def Le (R R' : Run) : Prop := ∀ f as st r, R f as st = some r → R' f as st = some r
theorem Le.refl (R : Run) : Le R R := fun _ _ _ _ h => h
theorem Le.trans {R R' R'' : Run} (h : Le R R') (h' : Le R' R'') : Le R R'' := fun _ _ _ _ e => h' _ _ _ _ (h _ _ _ _ e)
theorem bind_some' {α β : Type} {x : Option α} {f : α → Option β} {r : β} (h : x.bind f = some r) : ∃ a, x = some a ∧ f a = some r := Option.bind_eq_some_iff.1 h
theorem of_bind {α β : Type} {x : Option α} {f : α → Option β} {a : α} {r : β} (h : x = some a) (h' : f a = some r) : x.bind f = some r := by rw [h]; exact h'
theorem map_some' {α β : Type} {x : Option α} {f : α → β} {r : β} (h : x.map f = some r) : ∃ a, x = some a ∧ f a = r := Option.map_eq_some_iff.1 h
theorem of_map {α β : Type} {x : Option α} {f : α → β} {a : α} {r : β} (h : x = some a) (h' : f a = r) : x.map f = some r := by rw [h]; exact congrArg some h'

theorem opCall_le {R R' : Run} (h : Le R R') {g f ds st r} (e : opCall R g f ds st = some r) : opCall R' g f ds st = some r := by
  unfold opCall at *
  split at e
  · rename_i hg; rw [if_pos hg]; exact h _ _ _ _ e
  · rename_i hg; rw [if_neg hg]
    obtain ⟨xs, h1, h2⟩ := bind_some' e
    obtain ⟨q, h3, h4⟩ := bind_some' h2
    exact of_bind h1 (of_bind (h _ _ _ _ h3) h4)
theorem callV_le {R R' : Run} (h : Le R R') {ds st d r} (e : callV R ds st d = some r) : callV R' ds st d = some r := by
  unfold callV at *
  split at e <;> first | exact h _ _ _ _ e | exact e

theorem callBD_le {R R' : Run} (h : Le R R') {f st d r} (e : callBD R f st d = some r) : callBD R' f st d = some r := by
  unfold callBD at *
  split at e <;> first | (cases e; done) | skip
  split at e <;> first | (cases e; done) | skip
  rename_i hc
  rw [if_pos hc]
  obtain ⟨xs, h1, h2⟩ := bind_some' e
  refine of_bind h1 ?_
  unfold callBr at *
  split at h2 <;> first | (cases h2; done) | skip
  split at h2 <;> first | (cases h2; done) | skip
  rename_i hc2
  rw [if_pos hc2]
  obtain ⟨q, h3, h4⟩ := bind_some' h2
  exact of_bind (h _ _ _ _ h3) h4

theorem evOp_le {R R' : Run} (h : Le R R') {op env ts st r} (e : evOp R env ts st op = some r) : evOp R' env ts st op = some r := by
  cases op <;> try exact e
  case call gen f xs =>
    obtain ⟨q, h1, h2⟩ := map_some' e
    exact of_map (opCall_le h h1) h2
  case callv f xs =>
    obtain ⟨q, h1, h2⟩ := map_some' e
    exact of_map (callV_le h h1) h2
  case callB f a ys =>
    obtain ⟨q, h1, h2⟩ := bind_some' e
    exact of_bind (callBD_le h h1) h2
  case callP f xs =>
    simp only [evOp] at e ⊢
    split at e <;> first | (cases e; done) | skip
    rename_i hr
    rw [if_neg hr]
    obtain ⟨q, h1, h2⟩ := map_some' e
    exact of_map (opCall_le h h1) h2

theorem evOps_le {R R' : Run} (h : Le R R') : ∀ {l env ts st r}, evOps R l env ts st = some r → evOps R' l env ts st = some r
  | [], _, _, _, _, e => e
  | o :: l, env, ts, st, r, e => by
    simp only [evOps] at *
    obtain ⟨w, h1, h2⟩ := bind_some' e
    refine of_bind h1 ?_
    split at h2
    · rename_i hw
      rw [if_pos hw]
      obtain ⟨q, h3, h4⟩ := bind_some' h2
      exact of_bind (evOp_le h h3) (evOps_le h h4)
    · rename_i hw
      rw [if_neg hw]
      exact evOps_le h h2

theorem loopN_le {b b' : List D → St → Option Out} (h : ∀ env st r, b env st = some r → b' env st = some r) (kill : List Nat) :
    ∀ {n n' : Nat} {env st r}, n ≤ n' → loopN b kill n env st = some r → loopN b' kill n' env st = some r
  | 0, _, _, _, _, _, e => by simp [loopN] at e
  | n + 1, 0, _, _, _, hn, _ => by omega
  | n + 1, n' + 1, env, st, r, hn, e => by
    simp only [loopN] at *
    obtain ⟨⟨x, env', st'⟩, h1, h2⟩ := bind_some' e
    refine of_bind (h _ _ _ h1) ?_
    cases x <;> simp only at h2 ⊢
    · exact loopN_le h kill (by omega) h2
    · exact h2
    · exact h2

theorem rangeN_le {b b' : List D → St → Option Out} (h : ∀ env st r, b env st = some r → b' env st = some r) {ps env0} : ∀ {xs st r}, rangeN b ps env0 xs st = some r → rangeN b' ps env0 xs st = some r
  | [], st, r, e => e
  | x :: xs, st, r, e => by
    simp only [rangeN] at *
    split at e <;> first | (cases e; done) | skip
    rename_i hc
    rw [if_pos hc]
    obtain ⟨⟨y, env', st'⟩, h1, h2⟩ := bind_some' e
    refine of_bind (h _ _ _ h1) ?_
    cases y <;> simp only [rgC] at h2 ⊢
    · exact rangeN_le h h2
    · exact h2
    · exact h2
theorem rgB_le {A A' B B' : List D → St → Option Out} (hA : ∀ env st r, A env st = some r → A' env st = some r) (hB : ∀ env st r, B env st = some r → B' env st = some r) : ∀ env st r, rgB A B env st = some r → rgB A' B' env st = some r := fun env st r e => by
  unfold rgB at *
  obtain ⟨⟨y, env', st'⟩, h1, h2⟩ := bind_some' e
  refine of_bind (hA _ _ _ h1) ?_
  cases y <;> simp only [rgM] at h2 ⊢ <;> first | (cases h2; done) | skip
  split at h2 <;> first | (cases h2; done) | skip
  rename_i hs
  rw [if_pos hs]; exact hB _ _ _ h2
theorem rgU_le {B B' : List D → St → Option Out} (hB : ∀ env st r, B env st = some r → B' env st = some r) : ∀ u env st r, rgU B u env st = some r → rgU B' u env st = some r
  | none, env, st, r, e => hB env st r e
  | some (_, _), env, st, r, e => by
    simp only [rgU] at *
    obtain ⟨c, h1, h2⟩ := bind_some' e
    obtain ⟨y, h3, h4⟩ := bind_some' h2
    exact of_bind h1 (of_bind (hB _ _ _ h3) h4)
theorem exec_le {R R' : Run} (h : Le R R') {n n' : Nat} (hn : n ≤ n') : ∀ {c env st r}, exec R n c env st = some r → exec R' n' c env st = some r
  | .skip, _, _, _, e => e
  | .ret, _, _, _, e => e
  | .exit _, _, _, _, e => e
  | .ops l, env, st, r, e => by
    simp only [exec] at *
    obtain ⟨q, h1, h2⟩ := map_some' e
    exact of_map (evOps_le h h1) h2
  | .ifs l c a b, env, st, r, e => by
    simp only [exec] at *
    obtain ⟨q, h1, h2⟩ := bind_some' e
    obtain ⟨t, h3, h4⟩ := bind_some' h2
    refine of_bind (evOps_le h h1) (of_bind h3 ?_)
    cases t
    · exact exec_le h hn h4
    · exact exec_le h hn h4
  | .seq a b, env, st, r, e => by
    simp only [exec] at *
    obtain ⟨⟨x, env', st'⟩, h1, h2⟩ := bind_some' e
    refine of_bind (exec_le h hn h1) ?_
    cases x <;> simp only at h2 ⊢
    · exact exec_le h hn h2
    · exact h2
    · exact h2
  | .block id a, env, st, r, e => by
    simp only [exec] at *
    obtain ⟨q, h1, h2⟩ := bind_some' e
    exact of_bind (exec_le h hn h1) h2
  | .loop kill a, env, st, r, e => by
    simp only [exec] at *
    exact loopN_le (fun _ _ _ he => exec_le h hn he) kill hn e
  | .frame a, env, st, r, e => by
    simp only [exec] at *
    obtain ⟨q, h1, h2⟩ := map_some' e
    exact of_map (exec_le h hn h1) h2
  | .range k f x ps a b, env, st, r, e => by
    simp only [exec] at *
    obtain ⟨xs, h1, h2⟩ := bind_some' e
    exact of_bind h1 (rangeN_le (rgU_le (rgB_le (fun _ _ _ he => exec_le h hn he) (fun _ _ _ he => exec_le h hn he)) _) h2)
  | .clone d x sz bytes, env, st, r, e => e
  | .grow d n sz bytes, env, st, r, e => e
  | .nilc d x sz bytes a, env, st, r, e => by
    simp only [exec] at *
    split at e
    · rename_i h0; rw [if_pos h0]; exact e
    · rename_i h0; rw [if_neg h0]; exact exec_le h hn e

theorem runF_le {R R' : Run} (h : Le R R') {n n' : Nat} (hn : n ≤ n') {F as st r} (e : runF R n F as st = some r) : runF R' n' F as st = some r := by
  unfold runF at *
  split at e
  · rename_i ha
    rw [if_pos ha]
    obtain ⟨q, h1, h2⟩ := bind_some' e
    exact of_bind (exec_le h hn h1) h2
  · cases e

theorem runN_succ (G : Prg) : ∀ n, Le (runN G n) (runN G (n + 1))
  | 0 => fun _ _ _ _ e => by simp [runN] at e
  | n + 1 => fun f as st r e => by
    simp only [runN] at e ⊢
    cases hp : G.prim f with
    | some F => simp only [hp] at e ⊢; exact e
    | none =>
      simp only [hp] at e ⊢
      cases hf : G.fn f with
      | none => simp [hf] at e
      | some F => simp only [hf] at e ⊢; exact runF_le (runN_succ G n) (Nat.le_succ n) e
theorem runN_le (G : Prg) {n m : Nat} (h : n ≤ m) : Le (runN G n) (runN G m) := by
  induction h with
  | refl => exact Le.refl _
  | step _ ih => exact ih.trans (runN_succ G _)

open Classical in
noncomputable def lim {α : Type} (f : Nat → Option α) : Option α := if h : ∃ r n, f n = some r then some h.choose else none
def Mono {α : Type} (f : Nat → Option α) : Prop := ∀ n m r, n ≤ m → f n = some r → f m = some r
theorem lim_eq {α : Type} {f : Nat → Option α} (hf : Mono f) {n : Nat} {r : α} (h : f n = some r) : lim f = some r := by
  unfold lim
  have hx : ∃ r n, f n = some r := ⟨r, n, h⟩
  rw [dif_pos hx]
  obtain ⟨m, hm⟩ := hx.choose_spec
  have h1 := hf n (max n m) _ (Nat.le_max_left ..) h
  have h2 := hf m (max n m) _ (Nat.le_max_right ..) hm
  rw [h1] at h2
  exact h2.symm
theorem of_lim {α : Type} {f : Nat → Option α} {r : α} (h : lim f = some r) : ∃ n, f n = some r := by
  unfold lim at h
  split at h
  · rename_i hx; obtain ⟨m, hm⟩ := hx.choose_spec; cases h; exact ⟨m, hm⟩
  · cases h

noncomputable def run (G : Prg) : Run := fun f as st => lim fun n => runN G n f as st
theorem run_mono (G : Prg) (f as st) : Mono fun n => runN G n f as st := fun n m r h e => runN_le G h _ _ _ _ e
theorem run_of {G : Prg} {n f as st r} (h : runN G n f as st = some r) : run G f as st = some r := lim_eq (run_mono G f as st) h
theorem of_run {G : Prg} {f as st r} (h : run G f as st = some r) : ∃ n, runN G n f as st = some r := of_lim h
theorem le_run (G : Prg) (n : Nat) : Le (runN G n) (run G) := fun _ _ _ _ h => run_of h

theorem opCall_cont {G : Prg} {g f ds st r} (e : opCall (run G) g f ds st = some r) : ∃ m, opCall (runN G m) g f ds st = some r := by
  unfold opCall at *
  split at e
  · rename_i hg
    obtain ⟨m, hm⟩ := of_run e
    exact ⟨m, by rw [if_pos hg]; exact hm⟩
  · rename_i hg
    obtain ⟨xs, h1, h2⟩ := bind_some' e
    obtain ⟨q, h3, h4⟩ := bind_some' h2
    obtain ⟨m, hm⟩ := of_run h3
    exact ⟨m, by rw [if_neg hg]; exact of_bind h1 (of_bind hm h4)⟩
theorem callV_cont {G : Prg} {ds st d r} (e : callV (run G) ds st d = some r) : ∃ m, callV (runN G m) ds st d = some r := by
  unfold callV at *
  split at e
  · obtain ⟨m, hm⟩ := of_run e; exact ⟨m, hm⟩
  · obtain ⟨m, hm⟩ := of_run e; exact ⟨m, hm⟩
  · cases e
theorem callBD_cont {G : Prg} {f st d r} (e : callBD (run G) f st d = some r) : ∃ m, callBD (runN G m) f st d = some r := by
  unfold callBD at *
  split at e <;> first | (cases e; done) | skip
  split at e <;> first | (cases e; done) | skip
  rename_i hc
  obtain ⟨xs, h1, h2⟩ := bind_some' e
  unfold callBr at h2
  split at h2 <;> first | (cases h2; done) | skip
  split at h2 <;> first | (cases h2; done) | skip
  rename_i hc2
  obtain ⟨q, h3, h4⟩ := bind_some' h2
  obtain ⟨m, hm⟩ := of_run h3
  exact ⟨m, by rw [if_pos hc]; refine of_bind h1 ?_; unfold callBr; simp only [if_pos hc2]; exact of_bind hm h4⟩
theorem evOp_cont {G : Prg} {op env ts st r} (e : evOp (run G) env ts st op = some r) : ∃ m, evOp (runN G m) env ts st op = some r := by
  cases op <;> try exact ⟨0, e⟩
  case call gen f xs =>
    obtain ⟨q, h1, h2⟩ := map_some' e
    obtain ⟨m, hm⟩ := opCall_cont h1
    exact ⟨m, of_map hm h2⟩
  case callv f xs =>
    obtain ⟨q, h1, h2⟩ := map_some' e
    obtain ⟨m, hm⟩ := callV_cont h1
    exact ⟨m, of_map hm h2⟩
  case callB f a ys =>
    obtain ⟨q, h1, h2⟩ := bind_some' e
    obtain ⟨m, hm⟩ := callBD_cont h1
    exact ⟨m, of_bind hm h2⟩
  case callP f xs =>
    simp only [evOp] at e ⊢
    split at e <;> first | (cases e; done) | skip
    rename_i hr
    obtain ⟨q, h1, h2⟩ := map_some' e
    obtain ⟨m, hm⟩ := opCall_cont h1
    exact ⟨m, by rw [if_neg hr]; exact of_map hm h2⟩
theorem evOps_cont {G : Prg} : ∀ {l env ts st r}, evOps (run G) l env ts st = some r → ∃ m, evOps (runN G m) l env ts st = some r
  | [], _, _, _, _, e => ⟨0, e⟩
  | o :: l, env, ts, st, r, e => by
    simp only [evOps] at *
    obtain ⟨w, h1, h2⟩ := bind_some' e
    cases w with
    | false =>
      obtain ⟨m, hm⟩ := evOps_cont h2
      exact ⟨m, of_bind h1 hm⟩
    | true =>
      obtain ⟨q, h3, h4⟩ := bind_some' h2
      obtain ⟨m, hm⟩ := evOp_cont h3
      obtain ⟨m', hm'⟩ := evOps_cont h4
      exact ⟨max m m', of_bind h1 (of_bind (evOp_le (runN_le G (Nat.le_max_left m m')) hm) (evOps_le (runN_le G (Nat.le_max_right m m')) hm'))⟩
theorem loopN_cont {B : Nat → List D → St → Option Out} {b : List D → St → Option Out}
    (hB : ∀ n m env st r, n ≤ m → B n env st = some r → B m env st = some r) (h : ∀ env st r, b env st = some r → ∃ m, B m env st = some r) (kill : List Nat) :
    ∀ {n : Nat} {env st r}, loopN b kill n env st = some r → ∃ m, loopN (B m) kill n env st = some r
  | 0, _, _, _, e => by simp [loopN] at e
  | n + 1, env, st, r, e => by
    simp only [loopN] at *
    obtain ⟨⟨x, env', st'⟩, h1, h2⟩ := bind_some' e
    obtain ⟨m, hm⟩ := h _ _ _ h1
    cases x <;> simp only at h2 ⊢
    · obtain ⟨m', hm'⟩ := loopN_cont hB h kill h2
      exact ⟨max m m', of_bind (hB _ _ _ _ _ (Nat.le_max_left m m') hm) (loopN_le (fun _ _ _ he => hB _ _ _ _ _ (Nat.le_max_right m m') he) kill (Nat.le_refl _) hm')⟩
    · exact ⟨m, of_bind hm h2⟩
    · exact ⟨m, of_bind hm h2⟩
theorem rangeN_cont {B : Nat → List D → St → Option Out} {b : List D → St → Option Out}
    (hB : ∀ n m env st r, n ≤ m → B n env st = some r → B m env st = some r) (h : ∀ env st r, b env st = some r → ∃ m, B m env st = some r) {ps env0} :
    ∀ {xs st r}, rangeN b ps env0 xs st = some r → ∃ m, rangeN (B m) ps env0 xs st = some r
  | [], st, r, e => ⟨0, e⟩
  | x :: xs, st, r, e => by
    simp only [rangeN] at *
    split at e <;> first | (cases e; done) | skip
    rename_i hc
    obtain ⟨⟨y, env', st'⟩, h1, h2⟩ := bind_some' e
    obtain ⟨m, hm⟩ := h _ _ _ h1
    simp only [if_pos hc]
    cases y <;> simp only [rgC] at h2
    · obtain ⟨m', hm'⟩ := rangeN_cont hB h h2
      exact ⟨max m m', of_bind (hB _ _ _ _ _ (Nat.le_max_left m m') hm) (rangeN_le (fun _ _ _ he => hB _ _ _ _ _ (Nat.le_max_right m m') he) hm')⟩
    · exact ⟨m, of_bind hm h2⟩
    · exact ⟨m, of_bind hm h2⟩
theorem rgB_cont {A B : Nat → List D → St → Option Out} {a b : List D → St → Option Out}
    (hA : ∀ n m env st r, n ≤ m → A n env st = some r → A m env st = some r) (hB : ∀ n m env st r, n ≤ m → B n env st = some r → B m env st = some r)
    (ha : ∀ env st r, a env st = some r → ∃ m, A m env st = some r) (hb : ∀ env st r, b env st = some r → ∃ m, B m env st = some r) : ∀ env st r, rgB a b env st = some r → ∃ m, rgB (A m) (B m) env st = some r := fun env st r e => by
  unfold rgB at *
  obtain ⟨⟨y, env', st'⟩, h1, h2⟩ := bind_some' e
  obtain ⟨m, hm⟩ := ha _ _ _ h1
  cases y <;> simp only [rgM] at h2 <;> first | (cases h2; done) | skip
  split at h2 <;> first | (cases h2; done) | skip
  rename_i hs
  obtain ⟨m', hm'⟩ := hb _ _ _ h2
  exact ⟨max m m', of_bind (hA _ _ _ _ _ (Nat.le_max_left m m') hm) (by simp only [rgM, if_pos hs]; exact hB _ _ _ _ _ (Nat.le_max_right m m') hm')⟩
theorem rgU_cont {B : Nat → List D → St → Option Out} {b : List D → St → Option Out} (hb : ∀ env st r, b env st = some r → ∃ m, B m env st = some r) : ∀ u env st r, rgU b u env st = some r → ∃ m, rgU (B m) u env st = some r
  | none, env, st, r, e => hb env st r e
  | some (_, _), env, st, r, e => by
    simp only [rgU] at *
    obtain ⟨c, h1, h2⟩ := bind_some' e
    obtain ⟨y, h3, h4⟩ := bind_some' h2
    obtain ⟨m, hm⟩ := hb _ _ _ h3
    exact ⟨m, of_bind h1 (of_bind hm h4)⟩
theorem exec_cont {G : Prg} {n : Nat} : ∀ {c env st r}, exec (run G) n c env st = some r → ∃ m, exec (runN G m) n c env st = some r
  | .skip, _, _, _, e => ⟨0, e⟩
  | .ret, _, _, _, e => ⟨0, e⟩
  | .exit _, _, _, _, e => ⟨0, e⟩
  | .ops l, env, st, r, e => by
    simp only [exec] at *
    obtain ⟨q, h1, h2⟩ := map_some' e
    obtain ⟨m, hm⟩ := evOps_cont h1
    exact ⟨m, of_map hm h2⟩
  | .ifs l c a b, env, st, r, e => by
    simp only [exec] at *
    obtain ⟨q, h1, h2⟩ := bind_some' e
    obtain ⟨t, h3, h4⟩ := bind_some' h2
    obtain ⟨m, hm⟩ := evOps_cont h1
    cases t <;> simp only [if_true, if_false, Bool.false_eq_true] at h4 <;> obtain ⟨m', hm'⟩ := exec_cont h4 <;>
      exact ⟨max m m', of_bind (evOps_le (runN_le G (Nat.le_max_left m m')) hm) (of_bind h3 (exec_le (runN_le G (Nat.le_max_right m m')) (Nat.le_refl _) hm'))⟩
  | .seq a b, env, st, r, e => by
    simp only [exec] at *
    obtain ⟨⟨x, env', st'⟩, h1, h2⟩ := bind_some' e
    obtain ⟨m, hm⟩ := exec_cont h1
    cases x <;> simp only at h2
    · obtain ⟨m', hm'⟩ := exec_cont h2
      exact ⟨max m m', of_bind (exec_le (runN_le G (Nat.le_max_left m m')) (Nat.le_refl _) hm) (exec_le (runN_le G (Nat.le_max_right m m')) (Nat.le_refl _) hm')⟩
    · exact ⟨m, of_bind hm h2⟩
    · exact ⟨m, of_bind hm h2⟩
  | .block id a, env, st, r, e => by
    simp only [exec] at *
    obtain ⟨q, h1, h2⟩ := bind_some' e
    obtain ⟨m, hm⟩ := exec_cont h1
    exact ⟨m, of_bind hm h2⟩
  | .loop kill a, env, st, r, e => by
    simp only [exec] at *
    exact loopN_cont (B := fun m env st => exec (runN G m) n a env st) (fun _ _ _ _ _ h he => exec_le (runN_le G h) (Nat.le_refl _) he) (fun _ _ _ he => exec_cont he) kill e
  | .frame a, env, st, r, e => by
    simp only [exec] at *
    obtain ⟨q, h1, h2⟩ := map_some' e
    obtain ⟨m, hm⟩ := exec_cont h1
    exact ⟨m, of_map hm h2⟩
  | .range k f x ps a b, env, st, r, e => by
    simp only [exec] at *
    obtain ⟨xs, h1, h2⟩ := bind_some' e
    obtain ⟨m, hm⟩ := rangeN_cont (B := fun m => rgU (rgB (fun env st => exec (runN G m) n a env st) (fun env st => exec (runN G m) n b env st)) (iterU st k (cp (getT env x))))
      (fun _ _ _ _ _ h he => rgU_le (rgB_le (fun _ _ _ he => exec_le (runN_le G h) (Nat.le_refl _) he) (fun _ _ _ he => exec_le (runN_le G h) (Nat.le_refl _) he)) _ _ _ _ he)
      (rgU_cont (B := fun m => rgB (fun env st => exec (runN G m) n a env st) (fun env st => exec (runN G m) n b env st)) (rgB_cont (fun _ _ _ _ _ h he => exec_le (runN_le G h) (Nat.le_refl _) he) (fun _ _ _ _ _ h he => exec_le (runN_le G h) (Nat.le_refl _) he) (fun _ _ _ he => exec_cont he) (fun _ _ _ he => exec_cont he)) _) h2
    exact ⟨m, of_bind h1 hm⟩
  | .clone d x sz bytes, env, st, r, e => ⟨0, e⟩
  | .grow d n sz bytes, env, st, r, e => ⟨0, e⟩
  | .nilc d x sz bytes a, env, st, r, e => by
    simp only [exec] at *
    split at e
    · rename_i h0; exact ⟨0, by rw [if_pos h0]; exact e⟩
    · rename_i h0
      obtain ⟨m, hm⟩ := exec_cont e
      exact ⟨m, by rw [if_neg h0]; exact hm⟩

noncomputable def ex (G : Prg) (c : SCode) (env : List D) (st : St) : Option Out := lim fun n => exec (run G) n c env st
theorem ex_mono (G : Prg) (c env st) : Mono fun n => exec (run G) n c env st := fun n m r h e => exec_le (Le.refl _) h e
theorem ex_of {G : Prg} {n c env st r} (h : exec (run G) n c env st = some r) : ex G c env st = some r := lim_eq (ex_mono G c env st) h
theorem of_ex {G : Prg} {c env st r} (h : ex G c env st = some r) : ∃ n, exec (run G) n c env st = some r := of_lim h
theorem ext_opt {α : Type} {a b : Option α} (h1 : ∀ r, a = some r → b = some r) (h2 : ∀ r, b = some r → a = some r) : a = b := by
  cases a with
  | some x => exact (h1 x rfl).symm
  | none => cases b with
    | none => rfl
    | some y => exact h2 y rfl

theorem xq_frame (G : Prg) (a env st) : ex G (.frame a) env st = (ex G a env ([] :: st)).map fun q => (q.1, (pop q.2.1 q.2.2).1, (pop q.2.1 q.2.2).2) := by
  refine ext_opt (fun r h => ?_) (fun r h => ?_)
  · obtain ⟨n, hn⟩ := of_ex h
    simp only [exec] at hn
    obtain ⟨q, h1, h2⟩ := map_some' hn
    exact of_map (ex_of h1) h2
  · obtain ⟨q, h1, h2⟩ := map_some' h
    obtain ⟨n, hn⟩ := of_ex h1
    exact ex_of (n := n) (by simp only [exec]; exact of_map hn h2)
theorem xq_range (G : Prg) (k f x ps a b env st) : ex G (.range k f x ps a b) env st = (iterD st k f ps.length (cp (getT env x))).bind fun xs => rangeN (rgU (rgB (fun env st => ex G a env st) (fun env st => ex G b env st)) (iterU st k (cp (getT env x)))) ps (env.map cp) xs st := by
  refine ext_opt (fun r h => ?_) (fun r h => ?_)
  · obtain ⟨n, hn⟩ := of_ex h
    simp only [exec] at hn
    obtain ⟨xs, h1, h2⟩ := bind_some' hn
    exact of_bind h1 (rangeN_le (rgU_le (rgB_le (fun _ _ _ he => ex_of he) (fun _ _ _ he => ex_of he)) _) h2)
  · obtain ⟨xs, h1, h2⟩ := bind_some' h
    obtain ⟨m, hm⟩ := rangeN_cont (B := fun m => rgU (rgB (fun env st => exec (run G) m a env st) (fun env st => exec (run G) m b env st)) (iterU st k (cp (getT env x))))
      (fun _ _ _ _ _ h he => rgU_le (rgB_le (fun _ _ _ he => exec_le (Le.refl _) h he) (fun _ _ _ he => exec_le (Le.refl _) h he)) _ _ _ _ he)
      (rgU_cont (B := fun m => rgB (fun env st => exec (run G) m a env st) (fun env st => exec (run G) m b env st)) (rgB_cont (fun _ _ _ _ _ h he => exec_le (Le.refl _) h he) (fun _ _ _ _ _ h he => exec_le (Le.refl _) h he) (fun _ _ _ he => of_ex he) (fun _ _ _ he => of_ex he)) _) h2
    exact ex_of (n := m) (by simp only [exec]; exact of_bind h1 hm)
theorem xq_skip (G : Prg) (env st) : ex G .skip env st = some (.normal, env, st) := ex_of (n := 0) rfl
theorem xq_ret (G : Prg) (env st) : ex G .ret env st = some (.ret, env, st) := ex_of (n := 0) rfl
theorem xq_exit (G : Prg) (id env st) : ex G (.exit id) env st = some (.exit id, env, st) := ex_of (n := 0) rfl
theorem xq_ops (G : Prg) (l env st) : ex G (.ops l) env st = (evOps (run G) l env [] st).map fun q => (.normal, q.1, q.2.2) :=
  ext_opt (fun r h => let ⟨n, hn⟩ := of_ex h; hn) (fun r h => ex_of (n := 0) h)
theorem xq_ifs (G : Prg) (l c a b env st) : ex G (.ifs l c a b) env st = (evOps (run G) l env [] st).bind fun q => (boolD (rd q.1 q.2.1 c)).bind fun t =>
    if t = true then ex G a q.1 q.2.2 else ex G b q.1 q.2.2 := by
  refine ext_opt (fun r h => ?_) (fun r h => ?_)
  · obtain ⟨n, hn⟩ := of_ex h
    simp only [exec] at hn
    obtain ⟨q, h1, h2⟩ := bind_some' hn
    obtain ⟨t, h3, h4⟩ := bind_some' h2
    refine of_bind h1 (of_bind h3 ?_)
    cases t
    · exact ex_of h4
    · exact ex_of h4
  · obtain ⟨q, h1, h2⟩ := bind_some' h
    obtain ⟨t, h3, h4⟩ := bind_some' h2
    cases t <;> obtain ⟨n, hn⟩ := of_ex h4 <;> exact ex_of (n := n) (by simp only [exec]; exact of_bind h1 (of_bind h3 hn))
noncomputable def thenD (G : Prg) (b : SCode) : Out → Option Out
  | (.normal, env, st) => ex G b env st
  | (.ret, env, st) => some (.ret, env, st)
  | (.exit id, env, st) => some (.exit id, env, st)
theorem xq_seq (G : Prg) (a b env st) : ex G (.seq a b) env st = (ex G a env st).bind (thenD G b) := by
  refine ext_opt (fun r h => ?_) (fun r h => ?_)
  · obtain ⟨n, hn⟩ := of_ex h
    simp only [exec] at hn
    obtain ⟨⟨x, env', st'⟩, h1, h2⟩ := bind_some' hn
    refine of_bind (ex_of h1) ?_
    cases x <;> simp only at h2
    · exact ex_of h2
    · exact h2
    · exact h2
  · obtain ⟨⟨x, env', st'⟩, h1, h2⟩ := bind_some' h
    obtain ⟨n, hn⟩ := of_ex h1
    cases x
    · obtain ⟨m, hm⟩ := of_ex h2
      exact ex_of (n := max n m) (by simp only [exec]; exact of_bind (exec_le (Le.refl _) (Nat.le_max_left n m) hn) (exec_le (Le.refl _) (Nat.le_max_right n m) hm))
    · exact ex_of (n := n) (by simp only [exec]; exact of_bind hn h2)
    · exact ex_of (n := n) (by simp only [exec]; exact of_bind hn h2)
theorem xq_block (G : Prg) (id a env st) : ex G (.block id a) env st = (ex G a env st).bind (blkD id) := by
  refine ext_opt (fun r h => ?_) (fun r h => ?_)
  · obtain ⟨n, hn⟩ := of_ex h
    simp only [exec] at hn
    obtain ⟨q, h1, h2⟩ := bind_some' hn
    exact of_bind (ex_of h1) h2
  · obtain ⟨q, h1, h2⟩ := bind_some' h
    obtain ⟨n, hn⟩ := of_ex h1
    exact ex_of (n := n) (by simp only [exec]; exact of_bind hn h2)
theorem xq_nilc (G : Prg) (d x sz bytes a env st) : ex G (.nilc d x sz bytes a) env st = if isNilV (rdV st (cp (getT env x))) = true then some (.ret, env.set d (.v (.slc sz [])), st) else ex G a env st := by
  split
  · rename_i h0; exact ex_of (n := 0) (by simp only [exec]; rw [if_pos h0])
  · rename_i h0
    exact ext_opt (fun r h => by obtain ⟨n, hn⟩ := of_ex h; simp only [exec] at hn; rw [if_neg h0] at hn; exact ex_of hn) (fun r h => by obtain ⟨n, hn⟩ := of_ex h; exact ex_of (n := n) (by simp only [exec]; rw [if_neg h0]; exact hn))
theorem xq_grow (G : Prg) (d n sz bytes env st) : ex G (.grow d n sz bytes) env st = growD d sz bytes env st (getT env d) (getT env n) :=
  ext_opt (fun r h => by obtain ⟨n, hn⟩ := of_ex h; exact hn) (fun r h => ex_of (n := 0) h)
theorem xq_clone (G : Prg) (d x sz bytes env st) : ex G (.clone d x sz bytes) env st = ((rdV st (cp (getT env x))).bind (slcOf sz)).bind (cloneD d sz bytes env st) :=
  ext_opt (fun r h => by obtain ⟨n, hn⟩ := of_ex h; exact hn) (fun r h => ex_of (n := 0) h)
noncomputable def lpD (G : Prg) (kill : List Nat) (a : SCode) : Out → Option Out
  | (.normal, env, st) => ex G (.loop kill a) (pop (killE kill env) st).1 (pop (killE kill env) st).2
  | (.ret, env, st) => some (.ret, (pop (killE kill env) st).1, (pop (killE kill env) st).2)
  | (.exit id, env, st) => some (.exit id, (pop (killE kill env) st).1, (pop (killE kill env) st).2)
theorem xq_loop (G : Prg) (kill a env st) : ex G (.loop kill a) env st = (ex G a env ([] :: st)).bind (lpD G kill a) := by
  refine ext_opt (fun r h => ?_) (fun r h => ?_)
  · obtain ⟨n, hn⟩ := of_ex h
    simp only [exec] at hn
    cases n with
    | zero => simp [loopN] at hn
    | succ n =>
      simp only [loopN] at hn
      obtain ⟨⟨x, env', st'⟩, h1, h2⟩ := bind_some' hn
      refine of_bind (ex_of h1) ?_
      cases x <;> simp only at h2
      · exact ex_of (n := n + 1) (by simp only [exec]; exact loopN_le (fun _ _ _ h => h) kill (Nat.le_succ n) h2)
      · exact h2
      · exact h2
  · obtain ⟨⟨x, env', st'⟩, h1, h2⟩ := bind_some' h
    obtain ⟨n, hn⟩ := of_ex h1
    have hn1 : exec (run G) (n + 1) a env ([] :: st) = some (x, env', st') := exec_le (Le.refl _) (Nat.le_succ n) hn
    cases x
    · obtain ⟨m, hm⟩ := of_ex h2
      refine ex_of (n := max n m + 1) ?_
      simp only [exec, loopN]
      refine of_bind (exec_le (Le.refl _) (by omega) hn) ?_
      simp only [exec] at hm
      exact loopN_le (fun _ _ _ h => exec_le (Le.refl _) (by omega) h) kill (Nat.le_max_right n m) hm
    · exact ex_of (n := n + 1) (by simp only [exec, loopN]; exact of_bind hn1 h2)
    · exact ex_of (n := n + 1) (by simp only [exec, loopN]; exact of_bind hn1 h2)

theorem xq_fn (G : Prg) {f : Nat} {F : SFunc} (hp : G.prim f = none) (hf : G.fn f = some F) (as : List D) (st : St) (ha : as.length = F.np) :
    run G f as st = (ex G F.code (as ++ List.replicate (F.nv - F.np) .undef) ([] :: st)).bind (finD F.keep F.res st) := by
  refine ext_opt (fun r h => ?_) (fun r h => ?_)
  · obtain ⟨n, hn⟩ := of_run h
    cases n with
    | zero => simp [runN] at hn
    | succ n =>
      simp only [runN, hp, hf, runF, ha, if_true] at hn
      obtain ⟨q, h1, h2⟩ := bind_some' hn
      exact of_bind (ex_of (n := n) (exec_le (le_run G n) (Nat.le_refl _) h1)) h2
  · obtain ⟨q, h1, h2⟩ := bind_some' h
    obtain ⟨n, hn⟩ := of_ex h1
    obtain ⟨m, hm⟩ := exec_cont hn
    refine run_of (n := max n m + 1) ?_
    simp only [runN, hp, hf, runF, ha, if_true]
    exact of_bind (exec_le (runN_le G (Nat.le_max_right n m)) (Nat.le_max_left n m) hm) h2
theorem xq_prim (G : Prg) {f : Nat} {F : List D → St → Option (D × St)} (hp : G.prim f = some F) (as : List D) (st : St) :
    run G f as st = F as st :=
  ext_opt (fun r h => by
    obtain ⟨n, hn⟩ := of_run h
    cases n with
    | zero => simp [runN] at hn
    | succ n => simpa only [runN, hp] using hn) (fun r h => run_of (n := 1) (by simpa only [runN, hp] using h))

theorem ite_bind {α β : Type} (p : Prop) [Decidable p] (a b : Option α) (f : α → Option β) : (if p then a else b).bind f = if p then a.bind f else b.bind f := by
  split <;> rfl
theorem ite_map {α β : Type} (p : Prop) [Decidable p] (a b : Option α) (f : α → β) : (if p then a else b).map f = if p then a.map f else b.map f := by
  split <;> rfl
theorem set_same : ∀ (l : List D) (j : Nat), l.set j (getT l j) = l
  | [], _ => rfl
  | d :: l, 0 => rfl
  | d :: l, n + 1 => by simp only [getT, List.set_cons_succ]; rw [set_same l n]
section
variable (R : Run)
theorem eo_nil (env ts st) : evOps R [] env ts st = some (env, ts, st) := rfl
theorem eo_T (op l env ts st) : evOps R (⟨none, .tmp, op⟩ :: l) env ts st = (evOp R env ts st op).bind fun q => evOps R l q.2.1 (q.1 :: q.2.2.1) q.2.2.2 := rfl
theorem eo_N (op l env ts st) : evOps R (⟨none, .none, op⟩ :: l) env ts st = (evOp R env ts st op).bind fun q => evOps R l q.2.1 (.undef :: q.2.2.1) q.2.2.2 := rfl
theorem eo_W (i op l env ts st) : evOps R (⟨none, .var i, op⟩ :: l) env ts st = (evOp R env ts st op).bind fun q => evOps R l (q.2.1.set i q.1) (.undef :: q.2.2.1) q.2.2.2 := rfl
def guardD (j : Nat) (b : Bool) (dst : Dst) (op : SOp) (l : List SOper) (env ts : List D) (st : St) : D → Option (List D × List D × St)
  | .v (.bool t) => if t = true
    then (if b = true then evOps R (⟨none, dst, op⟩ :: l) env (ts.set j (.v (.bool true))) st else evOps R l (putD (.tup []) env (ts.set j (.v (.bool true))) dst).1 (putD (.tup []) env (ts.set j (.v (.bool true))) dst).2 st)
    else (if b = true then evOps R l (putD (.tup []) env (ts.set j (.v (.bool false))) dst).1 (putD (.tup []) env (ts.set j (.v (.bool false))) dst).2 st else evOps R (⟨none, dst, op⟩ :: l) env (ts.set j (.v (.bool false))) st)
  | .tup [] => evOps R l (putD (.tup []) env ts dst).1 (putD (.tup []) env ts dst).2 st
  | _ => none
theorem eo_G (j b dst op l env ts st) : evOps R (⟨some (j, b), dst, op⟩ :: l) env ts st = guardD R j b dst op l env ts st (getT ts j) := by
  have h0 : evOps R (⟨some (j, b), dst, op⟩ :: l) env ts st = (wantD b (getT ts j)).bind fun w => if w = true then evOps R (⟨none, dst, op⟩ :: l) env ts st else evOps R l (putD (.tup []) env ts dst).1 (putD (.tup []) env ts dst).2 st := rfl
  rw [h0]
  unfold guardD
  split
  · rename_i t ht
    have hs := set_same ts j
    rw [ht] at hs
    rw [ht]
    cases t <;> cases b <;> simp only [if_true, if_false, Bool.false_eq_true, hs] <;> rfl
  · rename_i ht; rw [ht]; rfl
  · rename_i h1 h2
    unfold wantD
    split
    · rename_i t ht; exact absurd ht (h1 t)
    · rename_i ht; exact absurd ht h2
    · rfl
end
mutual
theorem sameV_eq : ∀ (x y : V), sameV x y = true → x = y
  | .bool a, y, h => by cases y <;> simp [sameV] at h; subst h; rfl
  | .int k n, y, h => by cases y <;> simp [sameV] at h; obtain ⟨rfl, rfl⟩ := h; rfl
  | .str a, y, h => by cases y <;> simp [sameV] at h; subst h; rfl
  | .slc z xs, y, h => by
    cases y <;> simp [sameV] at h
    obtain ⟨rfl, h⟩ := h
    rw [sameVs_eq _ _ h]
  | .agg xs, y, h => by
    cases y <;> simp [sameV] at h
    rw [sameVs_eq _ _ h]
  | .nilp, y, h => by cases y <;> simp [sameV] at h; rfl
  | .nili, y, h => by cases y <;> simp [sameV] at h; rfl
  | .nilf, y, h => by cases y <;> simp [sameV] at h; rfl
  | .nilm, y, h => by cases y <;> simp [sameV] at h; rfl
  | .iface t x, y, h => by
    cases y <;> simp [sameV] at h
    obtain ⟨rfl, h⟩ := h
    rw [sameV_eq _ _ h]
  | .fn f, y, h => by cases y <;> simp [sameV] at h; subst h; rfl
  | .pt xs, y, h => by
    cases y <;> simp [sameV] at h
    rw [sameVs_eq _ _ h]
theorem sameVs_eq : ∀ (xs ys : List V), sameVs xs ys = true → xs = ys
  | [], ys, h => by cases ys <;> simp [sameVs] at h; rfl
  | x :: xs, ys, h => by
    cases ys <;> simp [sameVs] at h
    rw [sameV_eq _ _ h.1, sameVs_eq _ _ h.2]
end
mutual
theorem sameV_refl : ∀ (x : V), sameV x x = true
  | .bool a => by simp [sameV]
  | .int k n => by simp [sameV]
  | .str a => by simp [sameV]
  | .slc z xs => by simp [sameV, sameVs_refl xs]
  | .agg xs => by simp [sameV, sameVs_refl xs]
  | .nilp => rfl
  | .nili => rfl
  | .nilf => rfl
  | .nilm => rfl
  | .iface t x => by simp [sameV, sameV_refl x]
  | .fn f => by simp [sameV]
  | .pt xs => by simp [sameV, sameVs_refl xs]
theorem sameVs_refl : ∀ (xs : List V), sameVs xs xs = true
  | [] => rfl
  | x :: xs => by simp [sameVs, sameV_refl x, sameVs_refl xs]
end
mutual
theorem sameD_eq : ∀ (x y : D), sameD x y = true → x = y
  | .v x, y, h => by
    cases y <;> simp [sameD] at h
    rw [sameV_eq _ _ h]
  | .nils z, y, h => by cases y <;> simp [sameD] at h; subst h; rfl
  | .lin z xs, y, h => by
    cases y <;> simp [sameD] at h
    obtain ⟨rfl, h⟩ := h
    rw [sameVs_eq _ _ h]
  | .own r z o l x, y, h => by
    cases y <;> simp [sameD] at h
    obtain ⟨⟨⟨⟨rfl, rfl⟩, rfl⟩, rfl⟩, rfl⟩ := h; rfl
  | .arr r i o l, y, h => by
    cases y <;> simp [sameD] at h
    obtain ⟨⟨⟨rfl, rfl⟩, rfl⟩, rfl⟩ := h; rfl
  | .ptr r i o, y, h => by
    cases y <;> simp [sameD] at h
    obtain ⟨⟨rfl, rfl⟩, rfl⟩ := h; rfl
  | .va cs o, y, h => by
    cases y <;> simp [sameD] at h
    obtain ⟨h, rfl⟩ := h
    rw [sameVs_eq _ _ h]
  | .map r, y, h => by cases y <;> simp [sameD] at h; subst h; rfl
  | .clo f a b, y, h => by
    cases y <;> simp [sameD] at h
    obtain ⟨⟨rfl, h1⟩, h2⟩ := h
    rw [sameDs_eq _ _ h1, sameDs_eq _ _ h2]
  | .ifc t d, y, h => by
    cases y <;> simp [sameD] at h
    obtain ⟨rfl, h⟩ := h
    rw [sameD_eq _ _ h]
  | .agg ds, y, h => by
    cases y <;> simp [sameD] at h
    rw [sameDs_eq _ _ h]
  | .tup ds, y, h => by
    cases y <;> simp [sameD] at h
    rw [sameDs_eq _ _ h]
  | .undef, y, h => by cases y <;> simp [sameD] at h; rfl
theorem sameDs_eq : ∀ (xs ys : List D), sameDs xs ys = true → xs = ys
  | [], ys, h => by cases ys <;> simp [sameDs] at h; rfl
  | x :: xs, ys, h => by
    cases ys <;> simp [sameDs] at h
    rw [sameD_eq _ _ h.1, sameDs_eq _ _ h.2]
end
mutual
theorem sameD_refl : ∀ (x : D), sameD x x = true
  | .v x => sameV_refl x
  | .nils z => by simp [sameD]
  | .lin z xs => by simp [sameD, sameVs_refl xs]
  | .own r z o l x => by simp [sameD]
  | .arr r i o l => by simp [sameD]
  | .ptr r i o => by simp [sameD]
  | .va cs o => by simp [sameD, sameVs_refl cs]
  | .map r => by simp [sameD]
  | .clo f a b => by simp [sameD, sameDs_refl a, sameDs_refl b]
  | .ifc t d => by simp [sameD, sameD_refl d]
  | .agg ds => by simp [sameD, sameDs_refl ds]
  | .tup ds => by simp [sameD, sameDs_refl ds]
  | .undef => rfl
theorem sameDs_refl : ∀ (xs : List D), sameDs xs xs = true
  | [] => rfl
  | x :: xs => by simp [sameDs, sameD_refl x, sameDs_refl xs]
end
theorem sameO_refl (x : Option D) : sameO x x = true := by cases x with
  | none => rfl
  | some d => exact sameD_refl d
theorem sameO_eq {x y : Option D} (h : sameO x y = true) : x = y := by
  cases x <;> cases y <;> first | rfl | (cases h; done) | skip
  rw [sameD_eq _ _ h]
theorem sameLs_at {st st' : St} : ∀ {l : List (D × Nat × Option Nat)}, sameLs st st' l = true → ∀ p ∈ l, ldF st p.2.2 p.2.1 p.1 = ldF st' p.2.2 p.2.1 p.1
  | [], _, p, hp => by cases hp
  | x :: l, h, p, hp => by
    simp only [sameLs, Bool.and_eq_true] at h
    rcases List.mem_cons.1 hp with rfl | hp
    · exact sameO_eq h.1
    · exact sameLs_at h.2 p hp

end Go.Q
namespace Go.Q

inductive Pl where
  | env (i : Nat)
  | tmp (j k : Nat)
  | cell (r : Ref) (i j : Nat)
  | res (k : Nat)
  | nil
deriving DecidableEq

structure Gh where
  L : Nat → Nat
  M : Nat → Prop
  own : Nat → Option Pl
  be : Ref → Nat
  sz : Ref → Nat
  n : Ref → Nat
  cp : Ref → Nat
  live : Ref → Prop

inductive RelV (w : World) (L : Nat → Nat) : V → Value → Prop
  | bool (b) : RelV w L (.bool b) (.bool b)
  | int (k n) : RelV w L (.int k n) (.int k n)
  | str (s : ByteArray) : RelV w L (.str s.data.toList) (.string s)
  | slc0 (sz a c) : RelV w L (.slc sz []) (.slice a 0 c)
  | slc (sz : Nat) (xs : List V) (b o c : Nat) (f : Nat → Nat → Value) (hc : xs.length ≤ c)
      (hs : ∀ i (h : i < xs.length), (cellsV xs[i]).length = sz)
      (hL : ∀ i j, i < xs.length → j < sz → o + i * sz + j < L b)
      (hv : ∀ i j, i < xs.length → j < sz → w.cell? ⟨b, o + i * sz + j, none⟩ = some (f i j))
      (hk : ∀ i (h : i < xs.length) j (hj : j < (cellsV xs[i]).length), ((cellsV xs[i])[j]).isCell = true)
      (hr : ∀ i (h : i < xs.length) j (hj : j < (cellsV xs[i]).length), RelV w L (cellsV xs[i])[j] (f i j)) :
      RelV w L (.slc sz xs) (.slice (some ⟨b, o, none⟩) xs.length c)
  | agg (xs : List V) (cs : Array Value) (hl : xs.length = cs.size) (hk : ∀ i (h : i < xs.length), xs[i].isCell = true)
      (hr : ∀ i (h : i < xs.length), RelV w L xs[i] (cs[i]'(hl ▸ h))) : RelV w L (.agg xs) (.agg cs)
  | nilp : RelV w L .nilp (.pointer none)
  | nili : RelV w L .nili .nilIface
  | nilf : RelV w L .nilf .nilFunc
  | nilm : RelV w L .nilm (.map none)
  | iface (t x v) (h : RelV w L x v) : RelV w L (.iface t x) (.iface t v)
  | fn (f) : RelV w L (.fn f) (.func (.func f) #[] #[])
  | pt (xs : List V) (b o : Nat) (f : Nat → Value) (hL : ∀ j, j < xs.length → o + j < L b)
      (hv : ∀ j, j < xs.length → w.cell? ⟨b, o + j, none⟩ = some (f j)) (hk : ∀ j (h : j < xs.length), xs[j].isCell = true)
      (hr : ∀ j (h : j < xs.length), RelV w L xs[j] (f j)) : RelV w L (.pt xs) (.pointer (some ⟨b, o, none⟩))

theorem RelV.mono {w w' : World} {L L' : Nat → Nat} (hc : ∀ b o, o < L b → w'.cell? ⟨b, o, none⟩ = w.cell? ⟨b, o, none⟩) (hL : ∀ b, L b ≤ L' b)
    {x : V} {v : Value} (h : RelV w L x v) : RelV w' L' x v := by
  induction h with
  | bool b => exact .bool b
  | int k n => exact .int k n
  | str s => exact .str s
  | slc0 sz a c => exact .slc0 sz a c
  | slc sz xs b o c f h1 h2 h3 h4 h5 h6 ih =>
    exact .slc sz xs b o c f h1 h2 (fun i j hi hj => Nat.lt_of_lt_of_le (h3 i j hi hj) (hL b)) (fun i j hi hj => by rw [hc b _ (h3 i j hi hj)]; exact h4 i j hi hj) h5 ih
  | agg xs cs hl hk hr ih => exact .agg xs cs hl hk ih
  | nilp => exact .nilp
  | nili => exact .nili
  | nilf => exact .nilf
  | nilm => exact .nilm
  | iface t x v h ih => exact .iface t x v ih
  | fn f => exact .fn f
  | pt xs b o f h1 h2 h3 h4 ih =>
    exact .pt xs b o f (fun j hj => Nat.lt_of_lt_of_le (h1 j hj) (hL b)) (fun j hj => by rw [hc b _ (h1 j hj)]; exact h2 j hj) h3 ih

def Spare (w : World) (g : Gh) (p : Pl) (z : Nat) : Value → Prop
  | .slice a n c => n = c ∨ ∃ b o, a = some ⟨b, o, none⟩ ∧ g.own b = some p ∧ g.L b = o + n * z ∧ n ≤ c ∧
      ∀ j, j < o + c * z → (w.cell? ⟨b, j, none⟩).isSome = true ∧ w.frozen? ⟨b, j, none⟩ = false
  | _ => False

def D.isCell : D → Bool
  | .v x => x.isCell
  | .agg _ => false
  | .tup _ => false
  | .undef => false
  | _ => true

inductive RelD (w : World) (g : Gh) : (Nat → Pl) → D → Value → Prop
  | v (pl x v) (h : RelV w g.L x v) : RelD w g pl (.v x) v
  | nils (pl z) : RelD w g pl (.nils z) (.slice none 0 0)
  | lin (pl z xs v) (h : RelV w g.L (.slc z xs) v) (hs : Spare w g (pl 0) z v) : RelD w g pl (.lin z xs) v
  | own (pl r z off len x c ad) (hl : g.live r) (hc : len ≤ c ∧ (x = true → off + c ≤ g.n r) ∧ (x = false → (off + c) * z ≤ g.cp r)) (hz : g.sz r = z) (ha : len ≠ 0 → ad = ⟨g.be r, off * z, none⟩) : RelD w g pl (.own r z off len x) (.slice (some ad) len c)
  | arr (pl r i off len c ad) (hl : g.live r) (hc : len ≤ c) (ha : len ≠ 0 → ad = ⟨g.be r, i * g.sz r + off, none⟩) : RelD w g pl (.arr r i off len) (.slice (some ad) len c)
  | ptr (pl r i off) (hl : g.live r) : RelD w g pl (.ptr r i off) (.pointer (some ⟨g.be r, i * g.sz r + off, none⟩))
  | va (pl) (cs : List V) (off b o : Nat) (f : Nat → Value) (hL : ∀ j, j < cs.length → o + j < g.L b)
      (hv : ∀ j, j < cs.length → w.cell? ⟨b, o + j, none⟩ = some (f j)) (hk : ∀ j (h : j < cs.length), cs[j].isCell = true)
      (hr : ∀ j (h : j < cs.length), RelV w g.L cs[j] (f j)) : RelD w g pl (.va cs off) (.pointer (some ⟨b, o + off, none⟩))
  | map (pl r) (hl : g.live r) : RelD w g pl (.map r) (.map (some (g.be r)))
  | clo (pl f) (fs cs : List D) (vf vc : Array Value) (h1 : fs.length = vf.size) (h2 : cs.length = vc.size)
      (hf : ∀ i (h : i < fs.length), RelD w g (fun _ => .nil) fs[i] (vf[i]'(h1 ▸ h))) (hc : ∀ i (h : i < cs.length), RelD w g (fun _ => .nil) cs[i] (vc[i]'(h2 ▸ h))) :
      RelD w g pl (.clo f fs cs) (.func (.func f) vf vc)
  | ifc (pl t d v) (h : RelD w g (fun _ => .nil) d v) : RelD w g pl (.ifc t d) (.iface t v)
  | agg (pl) (ds : List D) (cs : Array Value) (hl : ds.length = cs.size) (hk : ∀ i (h : i < ds.length), ds[i].isCell = true)
      (hr : ∀ i (h : i < ds.length), RelD w g (fun _ => pl i) ds[i] (cs[i]'(hl ▸ h))) : RelD w g pl (.agg ds) (.agg cs)
  | tup (pl) (ds : List D) (cs : Array Value) (hl : ds.length = cs.size)
      (hr : ∀ i (h : i < ds.length), RelD w g (fun _ => pl i) ds[i] (cs[i]'(hl ▸ h))) : RelD w g pl (.tup ds) (.tuple cs)
  | undef (pl v) : RelD w g pl .undef v

structure Keeps (w w' : World) (g g' : Gh) : Prop where
  cell : ∀ b o, o < g.L b → w'.cell? ⟨b, o, none⟩ = w.cell? ⟨b, o, none⟩
  L : ∀ b, g.L b ≤ g'.L b
def KeepsPl (w w' : World) (g g' : Gh) (pl : Nat → Pl) : Prop :=
  ∀ b k, g.own b = some (pl k) → g'.own b = some (pl k) ∧ g'.L b = g.L b ∧
    ∀ o, ((w.cell? ⟨b, o, none⟩).isSome = true → (w'.cell? ⟨b, o, none⟩).isSome = true) ∧ (w.frozen? ⟨b, o, none⟩ = false → w'.frozen? ⟨b, o, none⟩ = false)
def KeepsRef (g g' : Gh) (r : Ref) : Prop := g'.live r ∧ g'.be r = g.be r ∧ g'.sz r = g.sz r ∧ g'.n r = g.n r ∧ g'.cp r = g.cp r

theorem Spare.mono {w w' : World} {g g' : Gh} {pl : Nat → Pl} {z : Nat} {v : Value} (h : Spare w g (pl 0) z v) (hp : KeepsPl w w' g g' pl) : Spare w' g' (pl 0) z v := by
  cases v <;> first | exact h.elim | skip
  rename_i a n c
  rcases h with h | ⟨b, o, h1, h2, h3, h4, h5⟩
  · exact .inl h
  · obtain ⟨h6, h7, h8⟩ := hp b 0 h2
    exact .inr ⟨b, o, h1, h6, h7.trans h3, h4, fun j hj => ⟨(h8 j).1 (h5 j hj).1, (h8 j).2 (h5 j hj).2⟩⟩

theorem RelD.mono {w w' : World} {g g' : Gh} {pl : Nat → Pl} {d : D} {v : Value} (h : RelD w g pl d v) (hk : Keeps w w' g g')
    (hn : ∀ b, g.own b ≠ some .nil) (hp : KeepsPl w w' g g' pl) (hr : ∀ r, g.live r → KeepsRef g g' r) : RelD w' g' pl d v := by
  induction h with
  | v pl x v h => exact .v pl x v (h.mono hk.cell hk.L)
  | nils pl z => exact .nils pl z
  | lin pl z xs v h hs => exact .lin pl z xs v (h.mono hk.cell hk.L) (hs.mono hp)
  | own pl r z off len x c ad hl hc hz ha => obtain ⟨a, b, c', d', e'⟩ := hr r hl; exact .own pl r z off len x c ad a (by rw [d']; exact ⟨hc.1, hc.2.1, fun h => by rw [e']; exact hc.2.2 h⟩) (c'.trans hz) (fun h => by rw [b]; exact ha h)
  | arr pl r i off len c ad hl hc ha => obtain ⟨a, b, c', _⟩ := hr r hl; exact .arr pl r i off len c ad a hc (fun h => by rw [b, c']; exact ha h)
  | ptr pl r i off hl => obtain ⟨a, b, c', _⟩ := hr r hl; rw [← b, ← c']; exact .ptr pl r i off a
  | va pl cs off b o f h1 h2 h3 h4 =>
    exact .va pl cs off b o f (fun j hj => Nat.lt_of_lt_of_le (h1 j hj) (hk.L b)) (fun j hj => by rw [hk.cell b _ (h1 j hj)]; exact h2 j hj) h3 (fun j hj => (h4 j hj).mono hk.cell hk.L)
  | map pl r hl => obtain ⟨a, b, c', _⟩ := hr r hl; rw [← b]; exact .map pl r a
  | clo pl f fs cs vf vc h1 h2 hf hc ih1 ih2 =>
    exact .clo pl f fs cs vf vc h1 h2 (fun i hi => ih1 i hi fun b k hb => absurd hb (hn b)) (fun i hi => ih2 i hi fun b k hb => absurd hb (hn b))
  | ifc pl t d v h ih => exact .ifc pl t d v (ih fun b k hb => absurd hb (hn b))
  | agg pl ds cs hl hk' hr' ih => exact .agg pl ds cs hl hk' (fun i hi => ih i hi fun b k hb => hp b i hb)
  | tup pl ds cs hl hr' ih => exact .tup pl ds cs hl (fun i hi => ih i hi fun b k hb => hp b i hb)
  | undef pl v => exact .undef pl v

def noLin : D → Bool
  | .lin _ _ => false
  | .agg ds => ds.all fun d => match d with | .lin _ _ => false | _ => true
  | .tup _ => false
  | .clo _ _ _ => false
  | .ifc _ _ => false
  | _ => true

def KeyR : V → Value → Prop
  | .int k n, .int k' n' => k = k' ∧ n = n'
  | .str s, .string b => b.data.toList = s
  | .bool a, .bool b => a = b
  | _, _ => False
def RelB (w : World) (g : Gh) (r : Ref) : Blk → Prop
  | .row xs => (xs.length = g.n r ∧ ∀ j, j < g.cp r → (w.cell? ⟨g.be r, j, none⟩).isSome = true ∧ w.frozen? ⟨g.be r, j, none⟩ = false) ∧ ∀ i (h : i < xs.length), (cellsOf xs[i]).length = g.sz r ∧ ∀ j (hj : j < (cellsOf xs[i]).length), ((cellsOf xs[i])[j]).isCell = true ∧ refsBelow (r.lvl + 1) ((cellsOf xs[i])[j]) = true ∧
      ∃ v, w.cell? ⟨g.be r, i * g.sz r + j, none⟩ = some v ∧ w.frozen? ⟨g.be r, i * g.sz r + j, none⟩ = false ∧ RelD w g (fun _ => .cell r i j) (cellsOf xs[i])[j] v
  | .mp es => ∃ arr clock, w.heap[g.be r]? = some (.map arr clock) ∧ arr.size = es.length ∧ ∀ i (h : i < es.length) (h' : i < arr.size),
      KeyR es[i].1 arr[i].key ∧ mapV (r.lvl + 1) es[i].2 = true ∧ RelD w g (fun _ => .cell r i 0) es[i].2 arr[i].val
  | .it s pos => w.heap[g.be r]? = some (.stringIter ⟨s.toArray⟩ pos) ∧ g.sz r = 0 ∧ g.n r = 0
  | .dead => True

theorem mapV_refs {n : Nat} {d : D} (h : mapV n d = true) : refsBelow n d = true := by
  unfold mapV at h
  split at h <;> first | (cases h; done) | exact h
class Known where
  gl : List (Nat × Nat × Value)
  bl : List (Nat × Obj)
def KnownOk [Known] (w : World) (g : Gh) : Prop := (∀ p ∈ Known.gl, p.2.1 < g.L p.1 ∧ w.cell? ⟨p.1, p.2.1, none⟩ = some p.2.2) ∧ ∀ p ∈ Known.bl, ¬ g.M p.1 ∧ p.1 < w.heap.size ∧ w.heap[p.1]? = some p.2
structure RelS [Known] (w : World) (g : Gh) (st : St) : Prop where
  live : ∀ r, g.live r ↔ ∃ b, getB st r = some b
  blk : ∀ r b, getB st r = some b → RelB w g r b
  be : ∀ r, g.live r → g.M (g.be r) ∧ g.L (g.be r) = 0 ∧ g.own (g.be r) = none ∧ g.be r < w.heap.size
  inj : ∀ r r', g.live r → g.live r' → g.be r = g.be r' → r = r' ∨ (r.lvl = r'.lvl ∧ (getB st r = some .dead ∨ getB st r' = some .dead))
  own : ∀ b p, g.own b = some p → g.M b ∧ b < w.heap.size
  nil : ∀ b, g.own b ≠ some .nil
  fresh : ∀ b, w.heap.size ≤ b → g.L b = 0 ∧ ¬ g.M b
  gl : KnownOk w g
theorem gl_keep [Known] {w w' : World} {g g' : Gh} (hc : ∀ b o, o < g.L b → w'.cell? ⟨b, o, none⟩ = w.cell? ⟨b, o, none⟩) (hL : ∀ b, g.L b ≤ g'.L b) (hs : w.heap.size ≤ w'.heap.size)
    (hb : ∀ b, b < w.heap.size → ¬ g.M b → ¬ g'.M b ∧ w'.heap[b]? = w.heap[b]?) (h : KnownOk w g) : KnownOk w' g' := by
  refine ⟨fun p hp => ?_, fun p hp => ?_⟩
  · obtain ⟨h1, h2⟩ := h.1 p hp
    exact ⟨Nat.lt_of_lt_of_le h1 (hL _), by rw [hc _ _ h1]; exact h2⟩
  · obtain ⟨h1, h2, h3⟩ := h.2 p hp
    obtain ⟨h4, h5⟩ := hb _ h2 h1
    exact ⟨h4, Nat.lt_of_lt_of_le h2 hs, by rw [h5]; exact h3⟩

structure Ext (w w' : World) (g g' : Gh) : Prop where
  os : w'.os = w.os
  tape : w'.tape = w.tape
  output : w'.output = w.output
  size : w.heap.size ≤ w'.heap.size
  cell : ∀ b o, o < g.L b → w'.cell? ⟨b, o, none⟩ = w.cell? ⟨b, o, none⟩
  L : ∀ b, g.L b ≤ g'.L b
  old : ∀ b, b < w.heap.size → ¬ g.M b → w'.heap[b]? = w.heap[b]? ∧ g'.L b = g.L b ∧ ¬ g'.M b
  refs : ∀ r, g.live r → KeepsRef g g' r

theorem Ext.refl (w : World) (g : Gh) : Ext w w g g := ⟨rfl, rfl, rfl, Nat.le_refl _, fun _ _ _ => rfl, fun _ => Nat.le_refl _, fun _ _ h => ⟨rfl, rfl, h⟩, fun r h => ⟨h, rfl, rfl, rfl, rfl⟩⟩
theorem Ext.trans {w w1 w2 : World} {g g1 g2 : Gh} (h : Ext w w1 g g1) (k : Ext w1 w2 g1 g2) : Ext w w2 g g2 :=
  ⟨k.os.trans h.os, k.tape.trans h.tape, k.output.trans h.output, Nat.le_trans h.size k.size,
   fun b o ho => (k.cell b o (Nat.lt_of_lt_of_le ho (h.L b))).trans (h.cell b o ho), fun b => Nat.le_trans (h.L b) (k.L b),
   fun b hb hm => by
    obtain ⟨a1, a2, a3⟩ := h.old b hb hm
    obtain ⟨b1, b2, b3⟩ := k.old b (Nat.lt_of_lt_of_le hb h.size) a3
    exact ⟨b1.trans a1, b2.trans a2, b3⟩, fun r hr => by
    obtain ⟨a1, a2, a3, a4, a5⟩ := h.refs r hr
    obtain ⟨b1, b2, b3, b4, b5⟩ := k.refs r a1
    exact ⟨b1, b2.trans a2, b3.trans a3, b4.trans a4, b5.trans a5⟩⟩
theorem Ext.keeps {w w' : World} {g g' : Gh} (h : Ext w w' g g') : Keeps w w' g g' := ⟨h.cell, h.L⟩
end Go.Q
namespace Go.Q

theorem allV_map : ∀ (xs : List V), allV (xs.map .v) = some xs
  | [] => rfl
  | x :: xs => by simp [allV, allV_map xs]
theorem allV_some : ∀ {ds : List D} {xs : List V}, allV ds = some xs → ds = xs.map .v
  | [], xs, h => by simp [allV] at h; subst h; rfl
  | d :: r, xs, h => by
    cases d <;> simp only [allV] at h <;> first | (cases h; done) | skip
    obtain ⟨ys, h1, rfl⟩ := map_some' h
    simp [allV_some h1]
theorem cellsOf_v (x : V) : cellsOf (.v x) = (cellsV x).map .v := by cases x <;> rfl
theorem mkAgg_map (xs : List V) : mkAgg (xs.map .v) = .v (.agg xs) := by simp [mkAgg, mkAgg1, allV_map]

section
variable {w : World} {g : Gh}

theorem RelD.place {pl pl' : Nat → Pl} {d : D} {v : Value} (h : RelD w g pl d v) (hc : d.isCell = true) (h0 : pl 0 = pl' 0) : RelD w g pl' d v := by
  cases h <;> first
    | (simp [D.isCell] at hc; done)
    | skip
  case v x h => exact .v _ _ _ h
  case nils z => exact .nils _ z
  case lin z xs h hs => exact .lin _ z xs _ h (h0 ▸ hs)
  case own r z off len x c ad hl hc' hz ha => exact .own _ r z off len x c ad hl hc' hz ha
  case arr r i off len c ad hl hc' ha => exact .arr _ r i off len c ad hl hc' ha
  case ptr r i off hl => exact .ptr _ r i off hl
  case va cs off b o f h1 h2 h3 h4 => exact .va _ cs off b o f h1 h2 h3 h4
  case map r hl => exact .map _ r hl
  case clo f fs cs vf vc h1 h2 h3 h4 => exact .clo _ f fs cs vf vc h1 h2 h3 h4
  case ifc t d v h => exact .ifc _ t d v h

theorem RelD.cp1 {pl pl' : Nat → Pl} {d : D} {v : Value} (h : RelD w g pl d v) (hc : d.isCell = true) : RelD w g pl' (cp1 d) v ∧ (Q.cp1 d).isCell = true := by
  cases h <;> first
    | (simp [D.isCell] at hc; done)
    | skip
  case v x h => exact ⟨.v _ _ _ h, hc⟩
  case nils z => exact ⟨.nils _ z, rfl⟩
  case lin z xs h hs => exact ⟨.v _ _ _ h, rfl⟩
  case own r z off len x c ad hl hc' hz ha => exact ⟨.own _ r z off len x c ad hl hc' hz ha, rfl⟩
  case arr r i off len c ad hl hc' ha => exact ⟨.arr _ r i off len c ad hl hc' ha, rfl⟩
  case ptr r i off hl => exact ⟨.ptr _ r i off hl, rfl⟩
  case va cs off b o f h1 h2 h3 h4 => exact ⟨.va _ cs off b o f h1 h2 h3 h4, rfl⟩
  case map r hl => exact ⟨.map _ r hl, rfl⟩
  case clo f fs cs vf vc h1 h2 h3 h4 => exact ⟨.clo _ f fs cs vf vc h1 h2 h3 h4, rfl⟩
  case ifc t d v h => exact ⟨.ifc _ t d v h, rfl⟩

theorem RelD.toV {pl : Nat → Pl} {x : V} {v : Value} (h : RelD w g pl (.v x) v) : RelV w g.L x v := by cases h; assumption

theorem mkAgg_rel {pl : Nat → Pl} {ds : List D} {cs : Array Value} (hl : ds.length = cs.size) (hk : ∀ i (h : i < ds.length), ds[i].isCell = true)
    (hr : ∀ i (h : i < ds.length), RelD w g (fun _ => pl i) ds[i] (cs[i]'(hl ▸ h))) : RelD w g pl (mkAgg ds) (.agg cs) := by
  unfold mkAgg
  cases h : allV ds with
  | none => exact .agg pl ds cs hl hk hr
  | some xs =>
    obtain rfl := allV_some h
    refine .v _ _ _ (.agg xs cs (by simpa using hl) (fun i hi => ?_) (fun i hi => ?_))
    · have := hk i (by simpa using hi)
      simpa [D.isCell] using this
    · have := hr i (by simpa using hi)
      simp only [List.getElem_map] at this
      exact this.toV

theorem RelD.cpA {pl pl' : Nat → Pl} {d : D} {v : Value} (h : RelD w g pl d v) : RelD w g pl' (cpA d) v := by
  by_cases hc : d.isCell = true
  · have := (h.cp1 (pl' := pl') hc).1
    cases d <;> first | exact this | (simp [D.isCell] at hc; done)
  · cases h <;> first | (simp [D.isCell] at hc; done) | skip
    case v x h => exact .v _ _ _ h
    case agg ds cs hl hk hr =>
      refine mkAgg_rel (by simpa using hl) (fun i hi => ?_) (fun i hi => ?_)
      · simp only [List.getElem_map]; exact ((hr i (by simpa using hi)).cp1 (pl' := pl') (hk i (by simpa using hi))).2
      · simp only [List.getElem_map]; exact ((hr i (by simpa using hi)).cp1 (hk i (by simpa using hi))).1
    case tup ds cs hl hr => exact .undef _ _
    case undef => exact .undef _ _

theorem RelD.cp {pl pl' : Nat → Pl} {d : D} {v : Value} (h : RelD w g pl d v) : RelD w g pl' (cp d) v := by
  cases d with
  | tup ds =>
    cases h
    case tup cs hl hr =>
      exact .tup _ _ _ (by simpa using hl) (fun i hi => by simp only [List.getElem_map]; exact (hr i (by simpa using hi)).cpA)
  | _ => exact h.cpA

theorem RelD.one {pl : Nat → Pl} {d : D} {v : Value} (h : RelD w g pl d v) (hc : d.isCell = true) : v.oneCell' = true := by
  cases h <;> first
    | rfl
    | (simp [D.isCell] at hc; done)
    | skip
  case v x h => cases h <;> first | rfl | (simp [D.isCell, V.isCell] at hc; done)
  case lin z xs h hs => cases h <;> rfl
theorem RelV.one {L : Nat → Nat} {x : V} {v : Value} (h : RelV w L x v) (hc : x.isCell = true) : v.oneCell' = true := by
  cases h <;> first | rfl | (simp [V.isCell] at hc; done)
theorem cells_one {v : Value} (h : v.oneCell' = true) : v.cells = #[v] := by cases v <;> first | rfl | (simp [Value.oneCell'] at h; done)

theorem RelD.cells {pl : Nat → Pl} {d : D} {v : Value} (h : RelD w g pl d v) (hg : goodD d = true) :
    ∃ hl : (cellsOf d).length = v.cells.size, ∀ i (hi : i < (cellsOf d).length), (cellsOf d)[i].isCell = true ∧ RelD w g (fun _ => pl i) (cellsOf d)[i] (v.cells[i]'(hl ▸ hi)) := by
  by_cases hc : d.isCell = true
  · have h1 : cellsOf d = [d] := by
      cases d <;> first | rfl | (simp [D.isCell] at hc; done) | skip
      rename_i x; cases x <;> first | rfl | (simp [D.isCell, V.isCell] at hc; done)
    have h2 := cells_one (h.one hc)
    refine ⟨by simp [h1, h2], fun i hi => ?_⟩
    have hi0 : i = 0 := by simp [h1] at hi; exact hi
    subst hi0
    simp only [h1, h2, List.getElem_cons_zero]
    exact ⟨hc, h.place hc rfl⟩
  · cases h <;> first | (simp [D.isCell] at hc; done) | (simp [goodD] at hg; done) | skip
    case v x h =>
      cases h <;> first | (simp [D.isCell, V.isCell] at hc; done) | skip
      case agg xs cs hl hk hr =>
        refine ⟨by simp [cellsOf, Value.cells, hl], fun i hi => ?_⟩
        have hi' : i < xs.length := by simpa [cellsOf] using hi
        simp only [cellsOf, List.getElem_map, Value.cells]
        exact ⟨by simpa [D.isCell] using hk i hi', .v _ _ _ (hr i hi')⟩
    case agg ds cs hl hk hr => exact ⟨hl, fun i hi => ⟨hk i hi, hr i hi⟩⟩
end

def Gh.mv (g : Gh) (f : Pl → Pl) : Gh := { g with own := fun b => (g.own b).map f }
theorem Gh.mv_own {g : Gh} {f : Pl → Pl} {b : Nat} {p : Pl} (h : g.own b = some p) : (g.mv f).own b = some (f p) := by simp [Gh.mv, h]
theorem RelV.mv {w : World} {g : Gh} {f : Pl → Pl} {x : V} {v : Value} (h : RelV w g.L x v) : RelV w (g.mv f).L x v := h
theorem RelD.mv {w : World} {g : Gh} {f : Pl → Pl} {pl pl' : Nat → Pl} {d : D} {v : Value} (h : RelD w g pl d v) (hf : ∀ k, f (pl k) = pl' k) (hn : f .nil = .nil) :
    RelD w (g.mv f) pl' d v := by
  induction h generalizing pl' with
  | v pl x v h => exact .v _ x v h
  | nils pl z => exact .nils _ z
  | lin pl z xs v h hs =>
    refine .lin _ z xs v h ?_
    cases v <;> first | exact hs.elim | skip
    rename_i a n c
    rcases hs with hs | ⟨b, o, h1, h2, h3⟩
    · exact .inl hs
    · exact .inr ⟨b, o, h1, by rw [Gh.mv_own h2, hf 0], h3⟩
  | own pl r z off len x c ad hl hc hz ha => exact .own _ r z off len x c ad hl hc hz ha
  | arr pl r i off len c ad hl hc ha => exact .arr _ r i off len c ad hl hc ha
  | ptr pl r i off hl => exact .ptr _ r i off hl
  | va pl cs off b o f h1 h2 h3 h4 => exact .va _ cs off b o f h1 h2 h3 h4
  | map pl r hl => exact .map _ r hl
  | clo pl f fs cs vf vc h1 h2 _ _ ih1 ih2 => exact .clo _ f fs cs vf vc h1 h2 (fun i hi => ih1 i hi fun _ => hn) (fun i hi => ih2 i hi fun _ => hn)
  | ifc pl t d v h ih => exact .ifc _ t d v (ih fun _ => hn)
  | agg pl ds cs hl hk hr ih => exact .agg _ ds cs hl hk (fun i hi => ih i hi fun _ => hf i)
  | tup pl ds cs hl hr ih => exact .tup _ ds cs hl (fun i hi => ih i hi fun _ => hf i)
  | undef pl v => exact .undef _ v
end Go.Q
namespace Go.Q

section
variable (P : Program)
def uSlc (t : TypeId) : Option TypeId := match P.underlying t with
  | some (.slice e) => some e
  | _ => none
def uArr (t : TypeId) : Option (Nat × TypeId) := match P.underlying t with
  | some (.array n e) => some (n, e)
  | _ => none
def uStr (t : TypeId) : Bool := match P.underlying t with
  | some .string => true
  | _ => false
def uInt (t : TypeId) : Option IntKind := match P.underlying t with
  | some (.int k) => some k
  | _ => none
def uStruct (t : TypeId) : Option (Array Field) := match P.underlying t with
  | some (.struct f) => some f
  | _ => none
def uAgg (t : TypeId) : Option Bool := match P.underlying t with
  | some (.struct _) => some true
  | some (.array _ _) => some true
  | some _ => some false
  | none => none
def uMap (t : TypeId) : Option (TypeId × TypeId) := match P.underlying t with
  | some (.map k e) => some (k, e)
  | _ => none
theorem of_uMap {t : TypeId} {q : TypeId × TypeId} (h : uMap P t = some q) : P.underlying t = some (.map q.1 q.2) := by
  unfold uMap at h; split at h <;> first | (cases h; assumption) | cases h
def szT (t : TypeId) : Option Nat := (P.info? t).map (·.size)
def zeroT (t : TypeId) : Option Value := (P.info? t).bind (·.zero)
theorem of_uSlc {t e : TypeId} (h : uSlc P t = some e) : P.underlying t = some (.slice e) := by
  unfold uSlc at h; split at h <;> first | (cases h; assumption) | cases h
theorem of_uArr {t : TypeId} {q : Nat × TypeId} (h : uArr P t = some q) : P.underlying t = some (.array q.1 q.2) := by
  unfold uArr at h; split at h <;> first | (cases h; assumption) | cases h
theorem of_uStr {t : TypeId} (h : uStr P t = true) : P.underlying t = some .string := by
  unfold uStr at h; split at h <;> first | assumption | cases h
theorem of_uInt {t : TypeId} {k : IntKind} (h : uInt P t = some k) : P.underlying t = some (.int k) := by
  unfold uInt at h; split at h <;> first | (cases h; assumption) | cases h
theorem of_uStruct {t : TypeId} {f : Array Field} (h : uStruct P t = some f) : P.underlying t = some (.struct f) := by
  unfold uStruct at h; split at h <;> first | (cases h; assumption) | cases h
theorem of_uAgg_true {t : TypeId} (h : uAgg P t = some true) : ∃ d, P.underlying t = some d ∧ d.isRow = true := by
  unfold uAgg at h; split at h <;> first | (cases h; done) | exact ⟨_, by assumption, rfl⟩
theorem of_uAgg_false {t : TypeId} (h : uAgg P t = some false) : ∃ d, P.underlying t = some d ∧ d.isRow = false := by
  unfold uAgg at h
  split at h <;> first | (cases h; done) | skip
  rename_i d h1 h2 hu
  exact ⟨d, hu, by cases d <;> first | rfl | exact (h1 _ rfl).elim | exact (h2 _ _ rfl).elim⟩
theorem of_szT {t : TypeId} {n : Nat} (h : szT P t = some n) : ∃ i, P.info? t = some i ∧ i.size = n := map_some' h
theorem of_zeroT {t : TypeId} {z : Value} (h : zeroT P t = some z) : ∃ i, P.info? t = some i ∧ i.zero = some z := bind_some' h
end

def zero8 : Option Value → Bool
  | some (.int .u8 0) => true
  | _ => false
def constN (n : Operand) (k : Nat) : Bool := match n with
  | .const (.int .i64 m) => m == (k : Int)
  | _ => false
def isZ8 : Opd → Bool
  | .c (.v (.int .u8 0)) => true
  | _ => false
def chkC : Value → D → Bool
  | .bool b, .v (.bool c) => b == c
  | .int k n, .v (.int j m) => decide (k = j) && decide (n = m)
  | .string s, .v (.str l) => s.data.toList == l
  | .slice none 0 0, .nils _ => true
  | .pointer none, .v .nilp => true
  | .nilIface, .v .nili => true
  | .nilFunc, .v .nilf => true
  | .map none, .v .nilm => true
  | _, _ => false
def chkZ : List Value → List D → Bool
  | [], [] => true
  | v :: vs, d :: ds => chkC v d && chkZ vs ds
  | _, _ => false

section
variable (μ : List Nat) (τ : List (Option Nat))
def chkO : Operand → Opd → Bool
  | .tmp t, .x i => μ[i]? == some t
  | .tmp t, .t j => τ.idxOf? (some t) == some j
  | .const v, .c d => chkC v d
  | .func f, .c (.v (.fn g)) => f == g
  | _, _ => false
def chkL : List Operand → List Opd → Bool
  | [], [] => true
  | x :: xs, y :: ys => chkO μ τ x y && chkL xs ys
  | _, _ => false
def chkOpt : Option Operand → Option Opd → Bool
  | none, none => true
  | some x, some y => chkO μ τ x y
  | _, _ => false
def orF {α : Type} (x : Option α) (F : α → Bool) : Bool := match x with
  | some e => F e
  | none => false
theorem of_orF {α : Type} {x : Option α} {F : α → Bool} (h : orF x F = true) : ∃ e, x = some e ∧ F e = true := by
  cases x with
  | none => cases h
  | some e => exact ⟨e, rfl, h⟩
def chkPs (pl : Nat → Option (Nat × Nat)) : List (Nat × Operand) → List (Nat × Nat × Opd) → Bool
  | [], [] => true
  | (i, x) :: xs, (o, s, y) :: ys => (orF (pl i) fun q => q.1 == o && q.2 == s) && chkO μ τ x y && chkPs pl xs ys
  | _, _ => false

variable (P : Program)
def fieldsOk (fs : Array Field) : Bool := fs.toList.all fun f => (P.info? f.type).isSome
def plStruct (fs : Array Field) (i : Nat) : Option (Nat × Nat) := (fs[i]?).bind fun f => (szT P f.type).map fun s => (f.offset, s)
def osz (t : TypeId) (s : Option Nat) : Bool := match uAgg P t with
  | some true => (szT P t).isSome && s == szT P t
  | some false => s == none && szT P t == some 1
  | none => false
def builtinOf (c : Call) : Option Builtin := match c.callee with
  | .builtin b => some b
  | _ => none
def clsT (t : TypeId) : Option Nat := match P.underlying t with
  | some .bool => some 0
  | some (.int _) => some 1
  | some .string => some 2
  | _ => none
def chkEqF : Nat → List Field → List Nat → Bool
  | _, [], [] => true
  | i, f :: fs, k :: ks => f.name != "_" && f.offset == i && clsT P f.type == some k && chkEqF (i + 1) fs ks
  | _, _, _ => false
def chkKd (t : TypeId) (k : Kd) (y : Opd) : Bool := match P.underlying t, k with
  | some .bool, .b => true
  | some (.struct fs), .g ks => !P.stoodInHeld t && !P.eqGuardType P.depth t && chkEqF P 0 fs.toList ks
  | some (.array n e), .g ks => !P.eqGuardType P.depth t && szT P e == some 1 && (orF (clsT P e) fun k => ks == List.replicate n k)
  | some (.slice _), .s => true
  | some (.pointer _), .p => true
  | some (.map _ _), .m => true
  | some (.func _ _ _), .f => true
  | some (.interface _), .i => match y with | .c _ => true | _ => false
  | _, _ => false

def chkOp (op : Op) (s : SOp) : Bool := match s with
  | .mov y => (match op with | .move x => chkO μ τ x y | .assign x => chkO μ τ x y | _ => false)
  | .take y => (match op with | .move x => chkO μ τ x y | .assign x => chkO μ τ x y | _ => false)
  | .pick c' a' b' => (match op with | .pick c a b => chkO μ τ c c' && chkO μ τ a a' && chkO μ τ b b' | _ => false)
  | .alloc _ z => (match op with | .alloc t => (orF (zeroT P t) fun zv => chkZ zv.cells.toList (cellsOf z)) | _ => false)
  | .box _ y => (match op with | .box t x => chkO μ τ x y | _ => false)
  | .build zs ps => (match op with
    | .build t parts => (orF (zeroT P t) fun zv => chkZ zv.cells.toList zs) &&
      (match uStruct P t, uArr P t with
        | some fs, _ => fieldsOk P fs && chkPs μ τ (plStruct P fs) parts.toList ps
        | none, some q => (orF (szT P q.2) fun s => chkPs μ τ (fun i => some (i * s, s)) parts.toList ps)
        | none, none => false)
    | _ => false)
  | .lit sz ys => (match op with
    | .buildSlice t n parts => (orF (uSlc P t) fun e => szT P e == some sz && (zeroT P e).isSome && parts.toList.map (·.1) == List.range n && decide (n * sz ≤ 16777216) && chkL μ τ (parts.toList.map (·.2)) ys)
    | .makeSlice t n c => (orF (uSlc P t) fun e => (orF (P.info? e) fun i => sz == 1 && i.size == 1 && i.bytes == 1 && zero8 i.zero && constN n ys.length && constN c ys.length && decide (ys.length ≤ 16777216) && ys.all isZ8))
    | _ => false)
  | .litO sz ys => (match op with
    | .buildSlice t n parts => (orF (uSlc P t) fun e => szT P e == some sz && (zeroT P e).isSome && parts.toList.map (·.1) == List.range n && decide (n * sz ≤ 16777216) && chkL μ τ (parts.toList.map (·.2)) ys)
    | _ => false)
  | .litD ys => (match op with
    | .buildSlice t n parts => (orF (uSlc P t) fun e => szT P e == some 1 && (zeroT P e).isSome && parts.toList.map (·.1) == List.range n && decide (n * 1 ≤ 16777216) && chkL μ τ (parts.toList.map (·.2)) ys)
    | _ => false)
  | .callP f ys => (match op with | .call c => (match c.callee with | .value (.func g) => f == g && chkL μ τ c.args.toList ys | _ => false) | _ => false)
  | .appO sz bytes x' y' _ => (match op with
    | .call c => (match builtinOf c, c.args.toList, c.argTypes.toList with
      | some .append, [x, y], [t, u] => chkO μ τ x x' && chkO μ τ y y' && (orF (uSlc P t) fun e => (orF (P.info? e) fun i => i.size == sz && i.bytes == bytes && bytes != 0 && sz != 0 && (orF (i.zero) fun zv => zv.cells.size == sz))) && (uStr P u || (uSlc P u).isSome)
      | _, _, _ => false)
    | _ => false)
  | .load s y => (match op with | .load t a => chkO μ τ a y && osz P t s | _ => false)
  | .loadR _ s y => (match op with | .load t a => chkO μ τ a y && osz P t s | _ => false)
  | .loadT y _ => (match op with | .load t a => chkO μ τ a y && osz P t none | _ => false)
  | .callB f y _ => (match op with | .call c => (match c.callee with | .value (.func g) => f == g && chkL μ τ c.args.toList [y] | _ => false) | _ => false)
  | .loadF _ _ s y => (match op with | .load t a => chkO μ τ a y && osz P t s | _ => false)
  | .store sz y z => (match op with | .store t a x => chkO μ τ a y && chkO μ τ x z && szT P t == some sz | _ => false)
  | .storeS sz y z _ => (match op with | .store t a x => chkO μ τ a y && chkO μ τ x z && szT P t == some sz | _ => false)
  | .bin o x' y' => (match op with | .binOp o' _ x y _ => decide (o = o') && chkO μ τ x x' && chkO μ τ y y' | _ => false)
  | .eq k neg x' y' => (match op with | .binOp o t x y _ => decide (o = if neg then .neq else .eql) && chkKd P t k y' && chkO μ τ x x' && chkO μ τ y y' | _ => false)
  | .un o x' => (match op with | .unOp o' _ x => decide (o = o') && chkO μ τ x x' | _ => false)
  | .cvi k x' => (match op with | .convert s d x => uInt P d == some k && (P.underlying s).isSome && chkO μ τ x x' | _ => false)
  | .s2b x' => (match op with | .convert s d x => uStr P s && (orF (uSlc P d) fun e => uInt P e == some .u8) && chkO μ τ x x' | _ => false)
  | .s2o x' => (match op with | .convert s d x => uStr P s && (orF (uSlc P d) fun e => uInt P e == some .u8) && chkO μ τ x x' | _ => false)
  | .b2s x' => (match op with | .convert s d x => uStr P d && (orF (uSlc P s) fun e => uInt P e == some .u8) && chkO μ τ x x' | _ => false)
  | .sub sz x' l h m => (match op with
    | .slice t x lo hi mx => chkO μ τ x x' && chkOpt μ τ lo l && chkOpt μ τ hi h && chkOpt μ τ mx m &&
      (orF (uSlc P t) fun e => szT P e == some sz)
    | _ => false)
  | .subA n x' l h m => (match op with
    | .slice t x lo hi mx => chkO μ τ x x' && chkOpt μ τ lo l && chkOpt μ τ hi h && chkOpt μ τ mx m &&
      (orF (uArr P t) fun q => q.1 == n && szT P q.2 == some 1)
    | _ => false)
  | .nck x' => (match op with
    | .nilCheck x => chkO μ τ x x'
    | _ => false)
  | .fa off x' => (match op with
    | .fieldAddr t x f => chkO μ τ x x' && (orF (uStruct P t) fun fs => (orF (fs[f]?) fun q => q.offset == off && (orF (szT P q.type) fun s => s != 0)))
    | _ => false)
  | .fld off s x' => (match op with
    | .field t x f => chkO μ τ x x' && (orF (uStruct P t) fun fs => (orF (fs[f]?) fun q => q.offset == off && osz P q.type s))
    | _ => false)
  | .ia sz x' i' => (match op with
    | .indexAddr t x i => chkO μ τ x x' && chkO μ τ i i' && (orF (uSlc P t) fun e => szT P e == some sz)
    | _ => false)
  | .iaA len sz x' i' => (match op with
    | .indexAddr t x i => chkO μ τ x x' && chkO μ τ i i' && (orF (uArr P t) fun q => q.1 == len && szT P q.2 == some sz)
    | _ => false)
  | .idx x' i' => (match op with | .index t x i => chkO μ τ x x' && chkO μ τ i i' && uStr P t | _ => false)
  | .idxA len sz s x' i' => (match op with
    | .index t x i => chkO μ τ x x' && chkO μ τ i i' && (orF (uArr P t) fun q => q.1 == len && szT P q.2 == some sz && osz P q.2 s)
    | _ => false)
  | .len x' => (match op with
    | .call c => (match builtinOf c, c.args.toList, c.argTypes.toList with
      | some .len, [x], [t] => chkO μ τ x x' && (uSlc P t).isSome
      | _, _, _ => false)
    | _ => false)
  | .capn x' => (match op with
    | .call c => (match builtinOf c, c.args.toList, c.argTypes.toList with
      | some .cap, [x], [t] => chkO μ τ x x' && (uSlc P t).isSome
      | _, _, _ => false)
    | _ => false)
  | .mkmap _ => (match op with | .makeMap t none => true | _ => false)
  | .look kd ok z x' k' => (match op with
    | .lookup t x k ok' => ok == ok' && chkO μ τ x x' && chkO μ τ k k' && (orF (uMap P t) fun q => clsT P q.1 == some kd && (orF (zeroT P q.2) fun zv => chkC zv z))
    | _ => false)
  | .mupd kd x' k' v' => (match op with
    | .mapUpdate t x k v => chkO μ τ x x' && chkO μ τ k k' && chkO μ τ v v' && (orF (uMap P t) fun q => clsT P q.1 == some kd)
    | _ => false)
  | .lenm x' => (match op with
    | .call c => (match builtinOf c, c.args.toList, c.argTypes.toList with
      | some .len, [x], [t] => chkO μ τ x x' && (uMap P t).isSome
      | _, _, _ => false)
    | _ => false)
  | .lens x' => (match op with
    | .call c => (match builtinOf c, c.args.toList, c.argTypes.toList with
      | some .len, [x], [t] => chkO μ τ x x' && uStr P t
      | _, _, _ => false)
    | _ => false)
  | .subs x' l h => (match op with
    | .slice t x lo hi none => chkO μ τ x x' && chkOpt μ τ lo l && chkOpt μ τ hi h && uStr P t
    | _ => false)
  | .cst d => (match op with
    | .call c => (match builtinOf c, c.args.toList, c.argTypes.toList with
      | some .len, [x], [t] => (match uArr P t, d with | some q, .v (.int .i64 n) => decide (n = (q.1 : Int)) | _, _ => false)
      | _, _, _ => false)
    | _ => false)
  | .subl sz x' l' => (match op with
    | .slice t x (some lo) none none => chkO μ τ x x' && chkO μ τ lo l' && (orF (uSlc P t) fun e => szT P e == some sz)
    | _ => false)
  | .app sz bytes x' y' => (match op with
    | .call c => (match builtinOf c, c.args.toList, c.argTypes.toList with
      | some .append, [x, y], [t, u] => chkO μ τ x x' && chkO μ τ y y' && (orF (uSlc P t) fun e => (orF (P.info? e) fun i => i.size == sz && i.bytes == bytes && bytes != 0 && sz != 0 && (orF (i.zero) fun zv => zv.cells.size == sz))) && (uStr P u || (uSlc P u).isSome)
      | _, _, _ => false)
    | _ => false)
  | .cpy sz x' y' => (match op with
    | .call c => (match builtinOf c, c.args.toList, c.argTypes.toList with
      | some .copy, [x, y], [t, u] => chkO μ τ x x' && chkO μ τ y y' && (orF (uSlc P t) fun e => szT P e == some sz) && (uStr P u || (uSlc P u).isSome)
      | _, _, _ => false)
    | _ => false)
  | .make sz bytes z n' c' => (match op with
    | .makeSlice t n c => chkO μ τ n n' && chkO μ τ c c' && (orF (uSlc P t) fun e => (orF (P.info? e) fun i => i.size == sz && i.bytes == bytes && bytes != 0 && (orF (i.zero) fun zv => chkZ zv.cells.toList (cellsOf z))))
    | _ => false)
  | .call _ f ys => (match op with | .call c => (match c.callee with | .value (.func g) => f == g && chkL μ τ c.args.toList ys | _ => false) | _ => false)
  | .callv y ys => (match op with | .call c => (match c.callee with | .value x => chkO μ τ x y && chkL μ τ c.args.toList ys | _ => false) | _ => false)
  | .mkf f fs cs => (match op with | .makeFunc (.func g) first captured => f == g && chkL μ τ first.toList fs && chkL μ τ captured.toList cs | _ => false)
  | .mki t y => (match op with | .makeInterface u x => t == u && chkO μ τ x y && (match P.underlying u with | some (.interface _) => false | some _ => true | none => false) | _ => false)
  | .ext i y => (match op with | .extract x j => i == j && chkO μ τ x y | _ => false)
  | .s2a n y => (match op with | .sliceToArrayPointer t x => chkO μ τ x y && (orF (uArr P t) fun q => q.1 == n && n != 0 && szT P q.2 == some 1) | _ => false)
  | .mx x' y' => (match op with
    | .call c => (match builtinOf c, c.args.toList with | some .max, [x, y] => chkO μ τ x x' && chkO μ τ y y' | _, _ => false)
    | _ => false)
  | .mn x' y' => (match op with
    | .call c => (match builtinOf c, c.args.toList with | some .min, [x, y] => chkO μ τ x x' && chkO μ τ y y' | _, _ => false)
    | _ => false)
  | .clr sz z x' => (match op with
    | .call c => (match builtinOf c, c.args.toList, c.argTypes.toList with
      | some .clear, [x], [t] => chkO μ τ x x' && (orF (uSlc P t) fun e => szT P e == some sz && sz != 0 && (orF (zeroT P e) fun zv => chkZ zv.cells.toList (cellsOf z) && zv.cells.size == sz))
      | _, _, _ => false)
    | _ => false)
  | .die => true
end
end Go.Q
