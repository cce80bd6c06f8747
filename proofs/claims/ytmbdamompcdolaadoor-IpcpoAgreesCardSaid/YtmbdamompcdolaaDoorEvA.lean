/- The abstract machine: pure data, references, the slim code, and what it computes. Definitions alone; no condition. -/
import Derived.Orders
set_option linter.unusedVariables false
namespace Go.Q

/-- Pure data: a slice by its contents. -/
inductive V where
  | bool (b : Bool)
  | int (k : IntKind) (n : Int)
  | str (s : List UInt8)
  | slc (sz : Nat) (xs : List V)
  | agg (xs : List V)
  | nilp | nili | nilf | nilm
  | iface (t : Nat) (x : V)
  | fn (f : Nat)
  | pt (xs : List V)
deriving Inhabited

structure Ref where
  lvl : Nat
  k : Nat
deriving DecidableEq, Inhabited

inductive D where
  | v (x : V)
  | nils (sz : Nat)
  | lin (sz : Nat) (xs : List V)
  | own (r : Ref) (sz off len : Nat) (x : Bool)
  | arr (r : Ref) (i off len : Nat)
  | ptr (r : Ref) (i off : Nat)
  | va (cs : List V) (off : Nat)
  | map (r : Ref)
  | clo (f : Nat) (fs cs : List D)
  | ifc (t : Nat) (d : D)
  | agg (ds : List D)
  | tup (ds : List D)
  | undef
instance : Inhabited D := ⟨.undef⟩

/-- A block of the store. -/
inductive Blk where
  | row (xs : List D)
  | mp (es : List (V × D))

abbrev St := List (List Blk)

def getB : St → Ref → Option Blk
  | [], _ => none
  | fr :: st, r => if r.lvl = st.length then fr[r.k]? else getB st r
def setB : St → Ref → Blk → St
  | [], _, _ => []
  | fr :: st, r, b => if r.lvl = st.length then fr.set r.k b :: st else fr :: setB st r b
/-- a new block in the upmost frame -/
def addB : St → Blk → St × Ref
  | [], b => ([[b]], ⟨0, 0⟩)
  | fr :: st, b => ((fr ++ [b]) :: st, ⟨st.length, fr.length⟩)
/-- a new block in the lowest frame -/
def addBot : St → Blk → St × Ref
  | [], b => ([[b]], ⟨0, 0⟩)
  | fr :: st, b => match st with
    | [] => ([fr ++ [b]], ⟨0, fr.length⟩)
    | f2 :: st2 => let q := addBot (f2 :: st2) b; (fr :: q.1, q.2)

def cellsV : V → List V
  | .agg xs => xs
  | x => [x]
def cellsOf : D → List D
  | .v (.agg xs) => xs.map .v
  | .agg ds => ds
  | d => [d]
def allV : List D → Option (List V)
  | [] => some []
  | .v x :: r => (allV r).map (x :: ·)
  | _ :: _ => none
def mkAgg1 (ds : List D) : Option (List V) → D
  | some xs => .v (.agg xs)
  | none => .agg ds
def mkAgg (ds : List D) : D := mkAgg1 ds (allV ds)

/-- What is read of it: the right to append stays behind. -/
def cp1 : D → D
  | .lin z xs => .v (.slc z xs)
  | d => d
def cpA : D → D
  | .lin z xs => .v (.slc z xs)
  | .agg ds => mkAgg (ds.map cp1)
  | .tup _ => .undef
  | d => d
def cp : D → D
  | .v x => .v x
  | .lin z xs => .v (.slc z xs)
  | .agg ds => mkAgg (ds.map cp1)
  | .tup ds => .tup (ds.map cpA)
  | d => d

/-- As pure data, nothing of the store being looked at. -/
def toV1 : D → Option V
  | .v x => some x
  | .nils z => some (.slc z [])
  | .lin z xs => some (.slc z xs)
  | _ => none
def toVs : List D → Option (List V)
  | [] => some []
  | d :: r => (toV1 d).bind fun x => (toVs r).map (x :: ·)
def toV : D → Option V
  | .v x => some x
  | .nils z => some (.slc z [])
  | .lin z xs => some (.slc z xs)
  | .agg ds => (toVs ds).map .agg
  | _ => none
def toVL : List D → Option (List V)
  | [] => some []
  | d :: r => (toV d).bind fun x => (toVL r).map (x :: ·)
/-- As pure data, rows being read. -/
def rowV (sz off len : Nat) : Option Blk → Option V
  | some (.row xs) => if off + len ≤ xs.length then (toVL ((xs.drop off).take len)).map (.slc sz) else none
  | _ => none
def arrV (off len : Nat) : Option D → Option V
  | some d => if off + len ≤ (cellsOf d).length then (toVL (((cellsOf d).drop off).take len)).map (.slc 1) else none
  | none => none
def rowAt (i : Nat) : Option Blk → Option D
  | some (.row xs) => xs[i]?
  | _ => none
def rdV (st : St) : D → Option V
  | .own r z off len _ => rowV z off len (getB st r)
  | .arr r i off len => arrV off len (rowAt i (getB st r))
  | .v x => some x
  | .nils z => some (.slc z [])
  | .lin z xs => some (.slc z xs)
  | d => toV d
def rdVs (st : St) : List D → Option (List V)
  | [] => some []
  | d :: r => (rdV st d).bind fun x => (rdVs st r).map (x :: ·)
def isRow : D → Bool
  | .own .. => true
  | .arr .. => true
  | _ => false
def anyRow : List D → Bool
  | [] => false
  | d :: r => isRow d || anyRow r

/-! ### Slim code -/
inductive Opd where
  | x (i : Nat)
  | t (j : Nat)
  | c (d : D)

/-- the kinds of what is compared -/
inductive Kd where
  | b | s | p | m | f | i
  | g (ks : List Nat)
deriving DecidableEq

inductive SOp where
  | mov (x : Opd)
  | take (x : Opd)
  | pick (c a b : Opd)
  | alloc (esc : Bool) (z : D)
  | box (esc : Bool) (x : Opd)
  | build (zs : List D) (ps : List (Nat × Nat × Opd))
  | lit (sz : Nat) (xs : List Opd)
  | load (sz : Option Nat) (a : Opd)
  | loadR (y : Opd) (sz : Option Nat) (a : Opd)
  | store (sz : Nat) (a x : Opd)
  | storeS (sz : Nat) (a x : Opd) (ys : List Opd)
  | bin (op : BinOp) (x y : Opd)
  | eq (k : Kd) (neg : Bool) (x y : Opd)
  | un (op : UnOp) (x : Opd)
  | cvi (k : IntKind) (x : Opd)
  | s2b (x : Opd)
  | b2s (x : Opd)
  | sub (sz : Nat) (x : Opd) (lo hi mx : Option Opd)
  | subA (n : Nat) (x : Opd) (lo hi mx : Option Opd)
  | nck (x : Opd)
  | fa (off : Nat) (x : Opd)
  | fld (off : Nat) (sz : Option Nat) (x : Opd)
  | ia (sz : Nat) (x i : Opd)
  | iaA (len sz : Nat) (x i : Opd)
  | idx (x i : Opd)
  | idxA (len sz : Nat) (asz : Option Nat) (x i : Opd)
  | len (x : Opd)
  | lens (x : Opd)
  | subs (x : Opd) (lo hi : Option Opd)
  | cst (d : D)
  | subl (sz : Nat) (x lo : Opd)
  | app (sz bytes : Nat) (x y : Opd)
  | cpy (sz : Nat) (x y : Opd)
  | make (sz bytes : Nat) (z : D) (n cap : Opd)
  | call (gen : Bool) (f : Nat) (xs : List Opd)
  | callv (f : Opd) (xs : List Opd)
  | mkf (f : Nat) (fs cs : List Opd)
  | mki (t : Nat) (x : Opd)
  | ext (i : Nat) (x : Opd)
  | s2a (n : Nat) (x : Opd)
  | mx (x y : Opd)
  | mn (x y : Opd)
  | clr (sz : Nat) (z : D) (x : Opd)
  | capn (x : Opd)
  | mkmap (esc : Bool)
  | look (kd : Nat) (ok : Bool) (z : D) (x k : Opd)
  | mupd (kd : Nat) (x k v : Opd)
  | lenm (x : Opd)
  | die
  | loadT (a : Opd) (ys : List Opd)
  | callB (f : Nat) (a : Opd) (ys : List (Opd × Nat × Option Nat))
  | loadF (y : Opd) (off : Nat) (sz : Option Nat) (a : Opd)

inductive Dst where
  | none | tmp | var (i : Nat)

structure SOper where
  g : Option (Nat × Bool)
  dst : Dst
  op : SOp
/-! short words -/
abbrev T (op : SOp) : SOper := ⟨none, .tmp, op⟩
abbrev W (i : Nat) (op : SOp) : SOper := ⟨none, .var i, op⟩
abbrev N (op : SOp) : SOper := ⟨none, .none, op⟩
abbrev GT (j : Nat) (b : Bool) (op : SOp) : SOper := ⟨some (j, b), .tmp, op⟩
abbrev GW (j : Nat) (b : Bool) (i : Nat) (op : SOp) : SOper := ⟨some (j, b), .var i, op⟩
abbrev GN (j : Nat) (b : Bool) (op : SOp) : SOper := ⟨some (j, b), .none, op⟩
abbrev ki (n : Int) : Opd := .c (.v (.int .i64 n))
abbrev kk (k : IntKind) (n : Int) : Opd := .c (.v (.int k n))
abbrev kb (b : Bool) : Opd := .c (.v (.bool b))
abbrev kn (sz : Nat) : Opd := .c (.nils sz)

inductive SCode where
  | skip
  | ret
  | exit (id : Nat)
  | ops (l : List SOper)
  | ifs (l : List SOper) (c : Opd) (a b : SCode)
  | seq (a b : SCode)
  | block (id : Nat) (a : SCode)
  | loop (kill : List Nat) (a : SCode)
  | clone (d x sz bytes : Nat)
  | nilc (d x sz bytes : Nat) (a : SCode)
  | grow (d n sz bytes : Nat)
  | range (k f x : Nat) (ps : List Nat) (a b : SCode)

inductive SRes where
  | var (i : Nat)
  | cell (sz : Option Nat) (i : Nat)

structure SFunc where
  np : Nat
  nv : Nat
  res : List SRes
  code : SCode
  keep : Bool := false

/-! ### What it computes -/
def getT : List D → Nat → D
  | [], _ => .undef
  | d :: _, 0 => d
  | _ :: l, n + 1 => getT l n
def raw (env ts : List D) : Opd → D
  | .x i => getT env i
  | .t j => getT ts j
  | .c d => d
def rd (env ts : List D) (x : Opd) : D := cp (raw env ts x)
/-- the value with its right, which leaves the place -/
def takeD (env ts : List D) : Opd → D → D × List D × List D
  | .x i, .lin z xs => (.lin z xs, env.set i (.v (.slc z xs)), ts)
  | .t j, .lin z xs => (.lin z xs, env, ts.set j (.v (.slc z xs)))
  | .t j, .tup ds => (.tup ds, env, ts.set j .undef)
  | _, d => (cp d, env, ts)
def takeO (env ts : List D) (x : Opd) : D × List D × List D := takeD env ts x (raw env ts x)

def eqVs : List Nat → List V → List V → Option Bool
  | [], [], [] => some true
  | 0 :: ks, .bool a :: xs, .bool b :: ys => (eqVs ks xs ys).map (a == b && ·)
  | 1 :: ks, .int k a :: xs, .int k' b :: ys => if k = k' then (eqVs ks xs ys).map (a == b && ·) else none
  | 2 :: ks, .str a :: xs, .str b :: ys => (eqVs ks xs ys).map (a == b && ·)
  | _, _, _ => none

def eqD : Kd → D → D → Option Bool
  | .b, .v (.bool a), .v (.bool b) => some (a == b)
  | .g ks, .v (.agg xs), .v (.agg ys) => eqVs ks xs ys
  | .s, .nils _, .nils _ => some true
  | .s, .v (.slc _ (_ :: _)), .nils _ => some false
  | .s, .own .., .nils _ => some false
  | .s, .arr .., .nils _ => some false
  | .p, .v .nilp, .v .nilp => some true
  | .p, .ptr .., .v .nilp => some false
  | .p, .va .., .v .nilp => some false
  | .p, .v (.pt _), .v .nilp => some false
  | .f, .v .nilf, .v .nilf => some true
  | .f, .v (.fn _), .v .nilf => some false
  | .f, .clo .., .v .nilf => some false
  | .i, .v .nili, .v .nili => some true
  | .i, .v (.iface _ _), .v .nili => some false
  | .i, .ifc _ _, .v .nili => some false
  | .m, .v .nilm, .v .nilm => some true
  | .m, .map _, .v .nilm => some false
  | _, _, _ => none

def binI (k : IntKind) (a b : Int) : BinOp → Option V
  | .add => some (.int k (k.wrap (a + b)))
  | .sub => some (.int k (k.wrap (a - b)))
  | .mul => some (.int k (k.wrap (a * b)))
  | .quo => if b = 0 then none else some (.int k (k.wrap (a.tdiv b)))
  | .rem => if b = 0 then none else some (.int k (a.tmod b))
  | .and => some (.int k (k.wrap (BitVec.ofInt k.bits a &&& BitVec.ofInt k.bits b).toNat))
  | .or => some (.int k (k.wrap (BitVec.ofInt k.bits a ||| BitVec.ofInt k.bits b).toNat))
  | .xor => some (.int k (k.wrap (BitVec.ofInt k.bits a ^^^ BitVec.ofInt k.bits b).toNat))
  | .andNot => some (.int k (k.wrap (BitVec.ofInt k.bits a &&& ~~~BitVec.ofInt k.bits b).toNat))
  | .eql => some (.bool (a == b))
  | .neq => some (.bool (a != b))
  | .lss => some (.bool (decide (a < b)))
  | .leq => some (.bool (decide (a ≤ b)))
  | .gtr => some (.bool (decide (a > b)))
  | .geq => some (.bool (decide (a ≥ b)))
  | .shl => none
  | .shr => none
def shI (k : IntKind) (a b : Int) : BinOp → Option V
  | .shl => if b < 0 then none else some (.int k (k.wrap (a * 2 ^ min b.toNat k.bits)))
  | .shr => if b < 0 then none else some (.int k (a.fdiv (2 ^ min b.toNat k.bits)))
  | _ => none
def isSh : BinOp → Bool
  | .shl => true
  | .shr => true
  | _ => false
def binS (a b : List UInt8) : BinOp → Option V
  | .add => if a.length + b.length ≤ 4611686018427387904 then some (.str (a ++ b)) else none
  | .eql => some (.bool (a == b))
  | .neq => some (.bool (!(a == b)))
  | .lss => some (.bool (Op.bytesLess a b))
  | .leq => some (.bool (Op.bytesLess a b || a == b))
  | .gtr => some (.bool (!(Op.bytesLess a b || a == b)))
  | .geq => some (.bool (!Op.bytesLess a b))
  | _ => none
def opBin (op : BinOp) : D → D → Option D
  | .v (.int k a), .v (.int k' b) => if isSh op = true then (shI k a b op).map .v else if k = k' then (binI k a b op).map .v else none
  | .v (.str a), .v (.str b) => (binS a b op).map .v
  | _, _ => none
def opUn : UnOp → D → Option D
  | .neg, .v (.int k n) => some (.v (.int k (k.wrap (0 - n))))
  | .xor, .v (.int k n) => some (.v (.int k (k.wrap (BitVec.ofInt k.bits (if k.signed then -1 else k.max) ^^^ BitVec.ofInt k.bits n).toNat)))
  | .not, .v (.bool b) => some (.v (.bool (!b)))
  | _, _ => none

def asN : D → Option Int
  | .v (.int _ n) => some n
  | _ => none
def boolD : D → Option Bool
  | .v (.bool t) => some t
  | _ => none
/-- an index below a bound -/
def ixOf (d : D) (n : Nat) : Option Nat := (asN d).bind fun i => if 0 ≤ i ∧ i < (n : Int) then some i.toNat else none
/-- a bound of a slice expression -/
def bndOf (d : D) (n : Nat) : Option Nat := (asN d).bind fun i => if 0 ≤ i ∧ i ≤ (n : Int) then some i.toNat else none
def bndHi (n : Nat) : Option D → Option Nat
  | some d => bndOf d n
  | none => some n
def bndLo (n : Nat) : Option D → Option Nat
  | some d => bndOf d n
  | none => some 0
/-- low, high: of what is len long -/
def bnds (len : Nat) (lo hi : Option D) : Option (Nat × Nat) := (bndHi len hi).bind fun h => (bndLo h lo).map fun l => (l, h)

def loadC (cs : List D) (off : Nat) : Option Nat → Option D
  | none => (cs[off]?).map cp
  | some n => if off + n ≤ cs.length then some (mkAgg (((cs.drop off).take n).map cp1)) else none
def loadVs (cs : List V) (off : Nat) : Option Nat → Option D
  | none => (cs[off]?).map .v
  | some n => if off + n ≤ cs.length then some (.v (.agg ((cs.drop off).take n))) else none
def opLoad (st : St) (sz : Option Nat) : D → Option D
  | .ptr r i off => (rowAt i (getB st r)).bind fun d => loadC (cellsOf d) off sz
  | .va cs off => loadVs cs off sz
  | .v (.pt cs) => loadVs cs 0 sz
  | _ => none

def isAggD : D → Bool
  | .v (.agg _) => true
  | .agg _ => true
  | _ => false
/-- the cells from off on as new ones -/
def putAt (cs : List D) (off : Nat) (new : List D) : List D := cs.take off ++ new ++ cs.drop (off + new.length)
def unCells (was : D) (cs : List D) : D := if isAggD was = true then mkAgg cs else cs.headD .undef
def newElem (sz off : Nat) (d x : D) : D :=
  if sz = (cellsOf d).length ∧ isAggD d = isAggD x then x else unCells d (putAt (cellsOf d) off (cellsOf x))
mutual
def refsBelow (n : Nat) : D → Bool
  | .own r _ _ _ _ => decide (r.lvl < n)
  | .arr r _ _ _ => decide (r.lvl < n)
  | .ptr r _ _ => decide (r.lvl < n)
  | .map r => decide (r.lvl < n)
  | .clo _ fs cs => refsBelows n fs && refsBelows n cs
  | .ifc _ d => refsBelow n d
  | .agg ds => refsBelows n ds
  | .tup ds => refsBelows n ds
  | .v _ => true
  | .nils _ => true
  | .lin _ _ => true
  | .va _ _ => true
  | .undef => true
def refsBelows (n : Nat) : List D → Bool
  | [] => true
  | d :: r => refsBelow n d && refsBelows n r
end
/-- may it lie in a cell? -/
def goodD : D → Bool
  | .tup _ => false
  | .undef => false
  | _ => true
def stElem (st : St) (sz : Nat) (r : Ref) (i off : Nat) (x : D) (xs : List D) : Option St :=
  (xs[i]?).bind fun d => if (cellsOf x).length = sz ∧ off + sz ≤ (cellsOf d).length ∧ goodD x = true ∧ refsBelow (r.lvl + 1) x = true then some (setB st r (.row (xs.set i (newElem sz off d x)))) else none
def rowOf : Option Blk → Option (List D)
  | some (.row xs) => some xs
  | _ => none
def opStore (st : St) (sz : Nat) (x : D) : D → Option St
  | .ptr r i off => (rowOf (getB st r)).bind (stElem st sz r i off x)
  | _ => none

/-- a cell's right is taken -/
def ldTE (st : St) (r : Ref) (i off : Nat) (xs : List D) : Option (D × St) :=
  (xs[i]?).bind fun d => ((cellsOf d)[off]?).map fun c => (c, setB st r (.row (xs.set i (unCells d ((cellsOf d).set off (cp1 c))))))
def opLoadT (st : St) : D → Option (D × St)
  | .ptr r i off => (rowOf (getB st r)).bind (ldTE st r i off)
  | _ => none

def subM (sz : Nat) (xs : List V) (lo hi : Option D) (m : Nat) : Option D :=
  hi.bind fun hd => (bnds m lo (some hd)).map fun q => if q.2 = m then .lin sz ((xs.take q.2).drop q.1) else .v (.slc sz ((xs.take q.2).drop q.1))
def opSubs (lo hi : Option D) : D → Option D
  | .v (.str s) => (bnds s.length lo hi).map fun q => .v (.str ((s.take q.2).drop q.1))
  | _ => none
def opSub (sz : Nat) (lo hi : Option D) : Option D → D → Option D
  | none, .v (.slc z xs) => if z = sz then (bnds xs.length lo hi).map fun q => .v (.slc z ((xs.take q.2).drop q.1)) else none
  | some m, .v (.slc z xs) => if z = sz then (bndOf m xs.length).bind (subM z xs lo hi) else none
  | none, .nils z => (bnds 0 lo hi).map fun _ => .nils z
  | none, .own r z off len x => if z = sz then (bnds len lo hi).map fun q => .own r z (off + q.1) (q.2 - q.1) x else none
  | none, .arr r i off len => if sz = 1 then (bnds len lo hi).map fun q => .arr r i (off + q.1) (q.2 - q.1) else none
  | _, _ => none
def opSubA (n : Nat) (lo hi : Option D) : Option D → D → Option D
  | none, .ptr r i off => (bnds n lo hi).map fun q => .arr r i (off + q.1) (q.2 - q.1)
  | none, .va cs off => if off + n ≤ cs.length then (bnds n lo hi).map fun q => .v (.slc 1 ((((cs.drop off).take n).take q.2).drop q.1)) else none
  | none, .v (.pt cs) => if n ≤ cs.length then (bnds n lo hi).map fun q => .v (.slc 1 (((cs.take n).take q.2).drop q.1)) else none
  | _, _ => none

def opFa (off : Nat) : D → Option D
  | .ptr r i o => some (.ptr r i (o + off))
  | .va cs o => some (.va cs (o + off))
  | .v (.pt cs) => some (.va cs off)
  | _ => none
def vaOf (sz : Nat) (e : V) : Option D := if (cellsV e).length = sz then some (.va (cellsV e) 0) else none
def opIa (sz : Nat) (i : D) : D → Option D
  | .v (.slc _ xs) => (ixOf i xs.length).bind fun n => (xs[n]?).bind (vaOf sz)
  | .own r z off len _ => if z = sz then (ixOf i len).map fun n => .ptr r (off + n) 0 else none
  | .arr r j off len => if sz = 1 then (ixOf i len).map fun n => .ptr r j (off + n) else none
  | _ => none
def opIaA (len sz : Nat) (i x : D) : Option D := (ixOf i len).bind fun n => opFa (n * sz) x
def opIdx (i : D) : D → Option D
  | .v (.str s) => (ixOf i s.length).bind fun n => (s[n]?).map fun b => .v (.int .u8 b.toNat)
  | _ => none
def opFld (off : Nat) (sz : Option Nat) (x : D) : Option D := if isAggD x = true then loadC (cellsOf x) off sz else none
def opIdxA (len sz : Nat) (asz : Option Nat) (i x : D) : Option D := (ixOf i len).bind fun n => opFld (n * sz) asz x
/-- how much room a nil slice has -/
def capOf : D → Option Nat
  | .nils _ => some 0
  | _ => none
def lenOf : D → Option Nat
  | .v (.slc _ xs) => some xs.length
  | .nils _ => some 0
  | .own _ _ _ n _ => some n
  | .arr _ _ _ n => some n
  | _ => none
def slcOf (sz : Nat) : V → Option (List V)
  | .slc z xs => if z = sz then some xs else none
  | _ => none
/-- what is behind a slice or a string, as elements -/
def elems (sz : Nat) (st : St) : D → Option (List V)
  | .v (.str s) => if sz = 1 then some (s.map fun b => .int .u8 b.toNat) else none
  | .v (.slc z xs) => if z = sz then some xs else none
  | d => (rdV st d).bind (slcOf sz)
def bytesOf : List V → Option (List UInt8)
  | [] => some []
  | .int .u8 n :: r => if 0 ≤ n ∧ n < 256 then (bytesOf r).map (UInt8.ofNat n.toNat :: ·) else none
  | _ :: _ => none
def maxB : Nat := 140737488355328
def opApp (sz bytes : Nat) (ys : List V) : D → Option D
  | .nils _ => if ys.length * bytes ≤ maxB then some (.lin sz ys) else none
  | .lin z xs => if z = sz ∧ (xs.length + ys.length) * bytes ≤ maxB then some (.lin z (xs ++ ys)) else none
  | _ => none
/-- a pointer that is none of nil -/
def opNck : D → Option D
  | .ptr r i off => some (.ptr r i off)
  | .va cs off => some (.va cs off)
  | .v (.pt cs) => some (.v (.pt cs))
  | _ => none
/-- what stands behind, with the right to append -/
def opSubl (sz : Nat) (l : D) : D → Option D
  | .lin z xs => if z = sz then (bnds xs.length (some l) none).map fun q => .lin z ((xs.take q.2).drop q.1) else none
  | _ => none
def cpyRow (st : St) (ys : List V) (r : Ref) (off len : Nat) (xs : List D) : Option (Nat × St) :=
  if off + min ys.length len ≤ xs.length then some (min ys.length len, setB st r (.row (putAt xs off ((ys.take (min ys.length len)).map .v)))) else none
def cpyArr (st : St) (ys : List V) (r : Ref) (i off len : Nat) (xs : List D) : Option (Nat × St) :=
  (xs[i]?).bind fun d => if off + min ys.length len ≤ (cellsOf d).length then
    some (min ys.length len, setB st r (.row (xs.set i (mkAgg (putAt (cellsOf d) off ((ys.take (min ys.length len)).map .v)))))) else none
def opCpy (sz : Nat) (st : St) (ys : List V) : D → Option (Nat × St)
  | .own r z off len _ => if z = sz then (rowOf (getB st r)).bind (cpyRow st ys r off len) else none
  | .arr r i off len => if sz = 1 then (rowOf (getB st r)).bind (cpyArr st ys r i off len) else none
  | _ => none
def fillD : List D → List (Nat × Nat × D) → Option (List D)
  | cs, [] => some cs
  | cs, (off, sz, d) :: r => if (cellsOf d).length = sz ∧ off + sz ≤ cs.length ∧ goodD d = true then fillD (putAt cs off (cellsOf d)) r else none
mutual
def flat : V → Bool
  | .bool _ => true
  | .int _ _ => true
  | .str _ => true
  | .nilp => true
  | .nili => true
  | .nilf => true
  | .nilm => true
  | .fn _ => true
  | .agg xs => flats xs
  | .slc _ _ => false
  | .iface _ _ => false
  | .pt _ => false
def flats : List V → Bool
  | [] => true
  | x :: r => flat x && flats r
end
def flatD : D → Bool
  | .v x => flat x
  | _ => false
def flatDs : List D → Bool
  | [] => true
  | d :: r => flatD d && flatDs r
def flatR : D → Bool
  | .v x => flat x
  | .tup ds => flatDs ds
  | _ => false
def V.isCell : V → Bool
  | .agg _ => false
  | _ => true
def cells1 : List V → Bool
  | [] => true
  | x :: r => x.isCell && cells1 r
def s2aD (n : Nat) : D → Option D
  | .v (.slc z xs) => if z = 1 ∧ n ≤ xs.length ∧ cells1 xs = true then some (.va (xs.take n) 0) else none
  | .arr r i off len => if n ≤ len then some (.ptr r i off) else none
  | _ => none
def maxD : D → D → Option D
  | .v (.int k a), .v (.int _ b) => some (.v (.int k (if b > a then b else a)))
  | _, _ => none
def minD : D → D → Option D
  | .v (.int k a), .v (.int _ b) => some (.v (.int k (if b < a then b else a)))
  | _, _ => none
def strD : D → Option (List UInt8)
  | .v (.str s) => some s
  | _ => none
/-- each of so many cells -/
def szs (sz : Nat) : List V → Bool
  | [] => true
  | x :: r => decide ((cellsV x).length = sz) && szs sz r
def ifcD (t : Nat) : D → D
  | .v x => .v (.iface t x)
  | d => .ifc t d
def mkfD (f : Nat) : List D → List D → D
  | [], [] => .v (.fn f)
  | fs, cs => .clo f fs cs

/-- are two keys the same? -/
def keyEq : V → V → Option Bool
  | .int k a, .int k' b => if k = k' then some (a == b) else none
  | .str a, .str b => some (a == b)
  | .bool a, .bool b => some (a == b)
  | _, _ => none
def mfind (k : V) : List (V × D) → Option (Option D)
  | [] => some none
  | (k', d) :: es => (keyEq k k').bind fun t => if t = true then some (some d) else mfind k es
def mput (k : V) (d : D) : List (V × D) → Option (List (V × D))
  | [] => some [(k, d)]
  | (k', d') :: es => (keyEq k k').bind fun t => if t = true then some ((k', d) :: es) else (mput k d es).map ((k', d') :: ·)
def mpOf : Option Blk → Option (List (V × D))
  | some (.mp es) => some es
  | _ => none
def mapOf (st : St) : D → Option (List (V × D))
  | .map r => mpOf (getB st r)
  | .v .nilm => some []
  | _ => none
/-- a key of a kind: 0 bool, 1 integer, 2 string -/
def keyOfD (kd : Nat) : D → Option V
  | .v (.bool b) => if kd = 0 then some (.bool b) else none
  | .v (.int k n) => if kd = 1 then some (.int k n) else none
  | .v (.str s) => if kd = 2 then some (.str s) else none
  | _ => none
def lookD (ok : Bool) (z : D) : Option D → D
  | some d => if ok = true then .tup [d, .v (.bool true)] else d
  | none => if ok = true then .tup [z, .v (.bool false)] else z
/-- may it be a map's value? -/
def mapV (n : Nat) : D → Bool
  | .v (.agg _) => false
  | .agg _ => false
  | .tup _ => false
  | .undef => false
  | .lin _ _ => false
  | d => refsBelow n d
def mupdD (st : St) (k : V) (d : D) : D → Option St
  | .map r => if mapV (r.lvl + 1) d = true then (mpOf (getB st r)).bind fun es => (mput k d es).map fun es' => setB st r (.mp es') else none
  | _ => none

def clrRow (st : St) (z : D) (r : Ref) (off len : Nat) (xs : List D) : Option St :=
  if off + len ≤ xs.length then some (setB st r (.row (xs.take off ++ (List.replicate len z ++ xs.drop (off + len))))) else none
/-- elements become zeros -/
def opClr (sz : Nat) (z : D) (st : St) : D → Option St
  | .own r z' off len _ => if z' = sz then if len = 0 then some st else (rowOf (getB st r)).bind (clrRow st z r off len) else none
  | _ => none
/-- is it known to be another block than those? -/
def sepD : D → List D → Bool
  | _, [] => true
  | .ptr r i o, .ptr r' _ _ :: ds => decide (r' ≠ r) && sepD (.ptr r i o) ds
  | .ptr r i o, .va _ _ :: ds => sepD (.ptr r i o) ds
  | .ptr r i o, .v (.pt _) :: ds => sepD (.ptr r i o) ds
  | _, _ => false

/-- into the same block? -/
def sameR : D → D → Bool
  | .ptr r _ _, .ptr r' _ _ => decide (r = r')
  | _, _ => false

/-! the same data? -/
mutual
def sameV : V → V → Bool
  | .bool a, .bool b => a == b
  | .int k n, .int k' n' => decide (k = k') && decide (n = n')
  | .str a, .str b => a == b
  | .slc z xs, .slc z' ys => decide (z = z') && sameVs xs ys
  | .agg xs, .agg ys => sameVs xs ys
  | .nilp, .nilp => true
  | .nili, .nili => true
  | .nilf, .nilf => true
  | .nilm, .nilm => true
  | .iface t x, .iface t' y => decide (t = t') && sameV x y
  | .fn f, .fn f' => decide (f = f')
  | .pt xs, .pt ys => sameVs xs ys
  | _, _ => false
def sameVs : List V → List V → Bool
  | [], [] => true
  | x :: xs, y :: ys => sameV x y && sameVs xs ys
  | _, _ => false
end
mutual
def sameD : D → D → Bool
  | .v x, .v y => sameV x y
  | .nils z, .nils z' => decide (z = z')
  | .lin z xs, .lin z' ys => decide (z = z') && sameVs xs ys
  | .own r z o l x, .own r' z' o' l' x' => decide (r = r') && decide (z = z') && decide (o = o') && decide (l = l') && x == x'
  | .arr r i o l, .arr r' i' o' l' => decide (r = r') && decide (i = i') && decide (o = o') && decide (l = l')
  | .ptr r i o, .ptr r' i' o' => decide (r = r') && decide (i = i') && decide (o = o')
  | .va cs o, .va cs' o' => sameVs cs cs' && decide (o = o')
  | .map r, .map r' => decide (r = r')
  | .clo f a b, .clo f' a' b' => decide (f = f') && sameDs a a' && sameDs b b'
  | .ifc t d, .ifc t' d' => decide (t = t') && sameD d d'
  | .agg ds, .agg ds' => sameDs ds ds'
  | .tup ds, .tup ds' => sameDs ds ds'
  | .undef, .undef => true
  | _, _ => false
def sameDs : List D → List D → Bool
  | [], [] => true
  | x :: xs, y :: ys => sameD x y && sameDs xs ys
  | _, _ => false
end
def sameO : Option D → Option D → Bool
  | none, none => true
  | some x, some y => sameD x y
  | _, _ => false
/-- at an offset behind a pointer -/
def ldF (st : St) (sz : Option Nat) (off : Nat) : D → Option D
  | .ptr r i o => opLoad st sz (.ptr r i (o + off))
  | _ => none
def sameLs (st st' : St) : List (D × Nat × Option Nat) → Bool
  | [] => true
  | p :: l => sameO (ldF st p.2.2 p.2.1 p.1) (ldF st' p.2.2 p.2.1 p.1) && sameLs st st' l
def sameP (off : Nat) : D → D → Bool
  | .ptr r i o, .ptr r' i' o' => decide (r = r') && decide (i = i') && decide (o' = o + off)
  | _, _ => false

abbrev Run := Nat → List D → St → Option (D × St)
abbrev Rg := D × List D × List D × St

def extL (env ts : List D) (st : St) (i j : Nat) (ds : List D) : D → Rg
  | .lin z xs => (.lin z xs, env, ts.set j (.tup (ds.set i (.v (.slc z xs)))), st)
  | d => (cp d, env, ts, st)
def extD (env ts : List D) (st : St) (i : Nat) : Opd → D → Option Rg
  | .t j, .tup ds => (ds[i]?).map (extL env ts st i j ds)
  | _, .tup ds => (ds[i]?).map fun d => (cp d, env, ts, st)
  | _, _ => none
def makeD (env ts : List D) (st : St) (sz bytes : Nat) (z : D) (a b : Int) : Option Rg :=
  if 0 ≤ a ∧ b = a ∧ a * bytes ≤ maxB ∧ (cellsOf z).length = sz then some (.own (addB st (.row (List.replicate a.toNat z))).2 sz 0 a.toNat true, env, ts, (addB st (.row (List.replicate a.toNat z))).1)
  else if a = 0 ∧ 0 ≤ b ∧ b * bytes ≤ maxB then some (.lin sz [], env, ts, st) else none
/-- a result of a call with pure data, rows having been read: none of it stays -/
def backD (rows : Bool) (st : St) : D × St → Option (D × St)
  | (r, []) => if rows = true then (if flatR r = true then some (r, st) else none) else some (r, st)
  | _ => none

section
variable (R : Run)

/-- A call: with pure data alone if all is pure data (rows are read, if nothing of them can stay), else as it is. -/
def opCall (gen : Bool) (f : Nat) (ds : List D) (st : St) : Option (D × St) :=
  if gen = true then R f ds st
  else (rdVs st ds).bind fun xs => (R f (xs.map .v) []).bind (backD (anyRow ds) st)
def callV (ds : List D) (st : St) : D → Option (D × St)
  | .v (.fn g) => R g ds st
  | .clo g fs cs => R g (fs ++ ds ++ cs) st
  | _ => none

/-- A call with a pointer to a block in which no references lie: that block alone is lent. -/
def callBe (st : St) (r : Ref) (x : D) : D × St → Option (D × St)
  | (v, [[.row [x']]]) => if flatR v = true ∧ refsBelow 0 x' = true ∧ (cellsOf x').length = (cellsOf x).length then some (v, setB st r (.row [x'])) else none
  | _ => none
def callBr (f : Nat) (st : St) (r : Ref) : List D → Option (D × St)
  | [x] => if refsBelow 0 x = true then (R f [.ptr ⟨0, 0⟩ 0 0] [[.row [x]]]).bind (callBe st r x) else none
  | _ => none
def callBD (f : Nat) (st : St) : D → Option (D × St)
  | .ptr r i off => if i = 0 ∧ off = 0 then (rowOf (getB st r)).bind (callBr R f st r) else none
  | _ => none

def evOp (env ts : List D) (st : St) : SOp → Option Rg
  | .mov x => some (rd env ts x, env, ts, st)
  | .take x => some ((takeO env ts x).1, (takeO env ts x).2.1, (takeO env ts x).2.2, st)
  | .pick c a b => (boolD (rd env ts c)).bind fun t => if t = true then some (rd env ts a, env, ts, st) else some (rd env ts b, env, ts, st)
  | .alloc esc z => if esc = true then if st.length < 2 then none else some (.ptr (addBot st (.row [z])).2 0 0, env, ts, (addBot st (.row [z])).1)
    else some (.ptr (addB st (.row [z])).2 0 0, env, ts, (addB st (.row [z])).1)
  | .box esc x => if goodD (takeO env ts x).1 = false then none else if esc = true then if refsBelow 1 (takeO env ts x).1 = false then none else some (.ptr (addBot st (.row [(takeO env ts x).1])).2 0 0, (takeO env ts x).2.1, (takeO env ts x).2.2, (addBot st (.row [(takeO env ts x).1])).1)
    else some (.ptr (addB st (.row [(takeO env ts x).1])).2 0 0, (takeO env ts x).2.1, (takeO env ts x).2.2, (addB st (.row [(takeO env ts x).1])).1)
  | .build zs ps => (fillD zs (ps.map fun p => (p.1, p.2.1, rd env ts p.2.2))).map fun cs => (mkAgg cs, env, ts, st)
  | .lit sz xs => if anyRow (xs.map (rd env ts)) = true then none else (rdVs st (xs.map (rd env ts))).bind fun ys => if szs sz ys = true then some (.lin sz ys, env, ts, st) else none
  | .load sz a => (opLoad st sz (rd env ts a)).map fun d => (d, env, ts, st)
  | .loadR y sz a => if sameR (rd env ts y) (rd env ts a) = true then (opLoad st sz (rd env ts a)).map fun d => (d, env, ts, st) else none
  | .store sz a x => (opStore st sz (takeO env ts x).1 (rd env ts a)).map fun st' => (.undef, (takeO env ts x).2.1, (takeO env ts x).2.2, st')
  | .storeS sz a x ys => if sepD (rd env ts a) (ys.map (rd env ts)) = true then (opStore st sz (takeO env ts x).1 (rd env ts a)).map fun st' => (.undef, (takeO env ts x).2.1, (takeO env ts x).2.2, st') else none
  | .bin op x y => (opBin op (rd env ts x) (rd env ts y)).map fun d => (d, env, ts, st)
  | .eq k neg x y => (eqD k (rd env ts x) (rd env ts y)).map fun b => (.v (.bool (b != neg)), env, ts, st)
  | .un op x => (opUn op (rd env ts x)).map fun d => (d, env, ts, st)
  | .cvi k x => (asN (rd env ts x)).map fun n => (.v (.int k (k.wrap n)), env, ts, st)
  | .s2b x => (strD (rd env ts x)).map fun s => (.lin 1 (s.map fun b => .int .u8 b.toNat), env, ts, st)
  | .b2s x => (((rdV st (rd env ts x)).bind (slcOf 1)).bind bytesOf).map fun s => (.v (.str s), env, ts, st)
  | .sub sz x lo hi mx => (opSub sz (lo.map (rd env ts)) (hi.map (rd env ts)) (mx.map (rd env ts)) (rd env ts x)).map fun d => (d, env, ts, st)
  | .subA n x lo hi mx => (opSubA n (lo.map (rd env ts)) (hi.map (rd env ts)) (mx.map (rd env ts)) (rd env ts x)).map fun d => (d, env, ts, st)
  | .nck x => (opNck (rd env ts x)).map fun d => (d, env, ts, st)
  | .fa off x => (opFa off (rd env ts x)).map fun d => (d, env, ts, st)
  | .fld off sz x => (opFld off sz (rd env ts x)).map fun d => (d, env, ts, st)
  | .ia sz x i => (opIa sz (rd env ts i) (rd env ts x)).map fun d => (d, env, ts, st)
  | .iaA len sz x i => (opIaA len sz (rd env ts i) (rd env ts x)).map fun d => (d, env, ts, st)
  | .idx x i => (opIdx (rd env ts i) (rd env ts x)).map fun d => (d, env, ts, st)
  | .idxA len sz asz x i => (opIdxA len sz asz (rd env ts i) (rd env ts x)).map fun d => (d, env, ts, st)
  | .len x => (lenOf (rd env ts x)).map fun (n : Nat) => (.v (.int .i64 (n : Int)), env, ts, st)
  | .capn x => (capOf (rd env ts x)).map fun (n : Nat) => (.v (.int .i64 (n : Int)), env, ts, st)
  | .mkmap esc => if esc = true then some (.map (addBot st (.mp [])).2, env, ts, (addBot st (.mp [])).1) else some (.map (addB st (.mp [])).2, env, ts, (addB st (.mp [])).1)
  | .look kd ok z x k => (keyOfD kd (rd env ts k)).bind fun kv => (mapOf st (rd env ts x)).bind fun es => (mfind kv es).map fun r => (lookD ok z r, env, ts, st)
  | .mupd kd x k v => (keyOfD kd (rd env ts k)).bind fun kv => (mupdD st kv (rd env ts v) (rd env ts x)).map fun st' => (.undef, env, ts, st')
  | .lenm x => (mapOf st (rd env ts x)).map fun es => (.v (.int .i64 es.length), env, ts, st)
  | .lens x => (strD (rd env ts x)).map fun s => (.v (.int .i64 s.length), env, ts, st)
  | .subs x lo hi => (opSubs (lo.map (rd env ts)) (hi.map (rd env ts)) (rd env ts x)).map fun d => (d, env, ts, st)
  | .cst d => some (d, env, ts, st)
  | .subl sz x lo => (opSubl sz (rd env ts lo) (takeO env ts x).1).map fun d => (d, (takeO env ts x).2.1, (takeO env ts x).2.2, st)
  | .app sz bytes x y => (elems sz st (rd env ts y)).bind fun ys => (opApp sz bytes ys (takeO env ts x).1).map fun d => (d, (takeO env ts x).2.1, (takeO env ts x).2.2, st)
  | .cpy sz x y => (elems sz st (rd env ts y)).bind fun ys => (opCpy sz st ys (rd env ts x)).map fun q => (.v (.int .i64 q.1), env, ts, q.2)
  | .make sz bytes z n cap => (asN (rd env ts n)).bind fun a => (asN (rd env ts cap)).bind (makeD env ts st sz bytes z a)
  | .call gen f xs => (opCall R gen f (xs.map (rd env ts)) st).map fun q => (q.1, env, ts, q.2)
  | .callv f xs => (callV R (xs.map (rd env ts)) st (rd env ts f)).map fun q => (q.1, env, ts, q.2)
  | .mkf f fs cs => some (mkfD f (fs.map (rd env ts)) (cs.map (rd env ts)), env, ts, st)
  | .mki t x => some (ifcD t (rd env ts x), env, ts, st)
  | .ext i x => extD env ts st i x (raw env ts x)
  | .s2a n x => (s2aD n (rd env ts x)).map fun d => (d, env, ts, st)
  | .mx x y => (maxD (rd env ts x) (rd env ts y)).map fun d => (d, env, ts, st)
  | .mn x y => (minD (rd env ts x) (rd env ts y)).map fun d => (d, env, ts, st)
  | .clr sz z x => (opClr sz z st (rd env ts x)).map fun st' => (.tup [], env, ts, st')
  | .die => none
  | .loadT a ys => if sepD (rd env ts a) (ys.map (rd env ts)) = true then (opLoadT st (rd env ts a)).map fun q => (q.1, env, ts, q.2) else none
  | .callB f a ys => (callBD R f st (rd env ts a)).bind fun q => if sameLs st q.2 (ys.map fun p => (rd env ts p.1, p.2)) = true then some (q.1, env, ts, q.2) else none
  | .loadF y off sz a => if sameP off (rd env ts y) (rd env ts a) = true then (opLoad st sz (rd env ts a)).map fun d => (d, env, ts, st) else none

/-- is a guarded operation wanted? -/
def wantD (b : Bool) : D → Option Bool
  | .v (.bool t) => some (t == b)
  | .tup [] => some false
  | _ => none
def wantO (ts : List D) : Option (Nat × Bool) → Option Bool
  | none => some true
  | some (j, b) => wantD b (getT ts j)
/-- where the value goes -/
def putD (d : D) (env ts : List D) : Dst → List D × List D
  | .none => (env, .undef :: ts)
  | .tmp => (env, d :: ts)
  | .var i => (env.set i d, .undef :: ts)

def evOps : List SOper → List D → List D → St → Option (List D × List D × St)
  | [], env, ts, st => some (env, ts, st)
  | o :: l, env, ts, st => (wantO ts o.g).bind fun w =>
    if w = true then (evOp R env ts st o.op).bind fun q => evOps l (putD q.1 q.2.1 q.2.2.1 o.dst).1 (putD q.1 q.2.1 q.2.2.1 o.dst).2 q.2.2.2
    else evOps l (putD (.tup []) env ts o.dst).1 (putD (.tup []) env ts o.dst).2 st

inductive Ex where
  | normal | exit (id : Nat) | ret

/-- a new block in the frame below the upmost one -/
def upB : St → Blk → Option (St × Ref)
  | fr :: f2 :: st, b => some (fr :: (addB (f2 :: st) b).1, (addB (f2 :: st) b).2)
  | _, _ => none
/-- the elements in a block of their own -/
def cloneD (d sz bytes : Nat) (env : List D) (st : St) (ys : List V) : Option (Ex × List D × St) :=
  if ys.length ≠ 0 ∧ ys.length * bytes ≤ maxB ∧ szs sz ys = true then (upB st (.row (ys.map .v))).map fun q => (.normal, env.set d (.own q.2 sz 0 ys.length false), q.1) else none
/-- room for n elements, none of them there -/
def growD (d sz bytes : Nat) (env : List D) (st : St) : D → D → Option (Ex × List D × St)
  | .nils _, .v (.int .i64 n) => if 0 < n ∧ n * (bytes : Int) ≤ (maxB : Int) then some (.normal, env.set d (.lin sz []), st) else none
  | _, _ => none
def isNilV : Option V → Bool
  | some (.slc _ []) => true
  | _ => false
def orUndef : Option V → D
  | some x => .v x
  | none => .undef
/-- what is left of a value when the upmost frame (number n) goes -/
def popD (st : St) (n : Nat) : D → D
  | .v x => .v x
  | .nils z => .nils z
  | .lin z xs => .lin z xs
  | .undef => .undef
  | d => if refsBelow n d = true then d else orUndef (rdV st d)
def pop (env : List D) (st : St) : List D × St := (env.map (popD st (st.length - 1)), st.tail)

def killE : List Nat → List D → List D
  | [], env => env
  | i :: l, env => killE l (env.set i .undef)

/-! a range over a function: z + 1: slices.All over elements of z + 1 cells -/
def idxV : Nat → List V → List (List V)
  | _, [] => []
  | i, x :: xs => [.int .i64 i, x] :: idxV (i + 1) xs
def allK (z : Nat) : D → Option (List (List V))
  | .v (.slc z' xs) => if z' = z ∧ xs.length ≤ maxB then some (idxV 0 xs) else none
  | .nils z' => if z' = z then some [] else none
  | _ => none
def iterK (st : St) : Nat → List D → Option (List (List V))
  | z + 1, [d] => (opLoad st none d).bind (allK (z + 1))
  | _, _ => none
def ofLen (n : Nat) (xs : List (List V)) : Option (List (List V)) := if xs.all (fun x => x.length == n) = true then some xs else none
def iterD (st : St) (k f n : Nat) : D → Option (List (List V))
  | .clo f' [] cs => if f' = f then (iterK st k cs).bind (ofLen n) else none
  | _ => none
def setPs : List Nat → List V → List D → List D
  | p :: ps, x :: xs, env => setPs ps xs (env.set p (.v x))
  | _, _, env => env
/-- a block that is known to be one of cells -/
def nz : D → Bool
  | .lin z _ => z != 0
  | _ => true
def solidB : Blk → Bool
  | .row xs => !xs.isEmpty && xs.all fun d => !(cellsOf d).isEmpty && (cellsOf d).all nz
  | .mp _ => false
def solid (st : St) : Bool := st.all fun fr => fr.all solidB

abbrev Out := Ex × List D × St
/-- behind a round -/
def rgC (K : St → Option Out) (env0 : List D) : Out → Option Out
  | (.normal, _, st) => K st.tail
  | (.ret, _, st) => if solid st.tail = true then some (.ret, env0, st.tail) else none
  | (.exit i, _, st) => if solid st.tail = true then some (.exit i, env0, st.tail) else none
/-- a round: its head, and its body -/
def rgM (B : List D → St → Option Out) : Out → Option Out
  | (.normal, env, st) => if solid st = true then B (env.map cp) st else none
  | _ => none
def rgB (A B : List D → St → Option Out) (env : List D) (st : St) : Option Out := (A env st).bind (rgM B)
def rangeN (body : List D → St → Option Out) (ps : List Nat) (env0 : List D) : List (List V) → St → Option Out
  | [], st => if solid st = true then some (.normal, env0, st) else none
  | x :: xs, st => if solid st = true then (body (setPs ps x env0) ([] :: st)).bind (rgC (rangeN body ps env0 xs) env0) else none
def loopN (body : List D → St → Option Out) (kill : List Nat) : Nat → List D → St → Option Out
  | 0, _, _ => none
  | n + 1, env, st => (body env ([] :: st)).bind fun q => match q.1 with
    | .normal => loopN body kill n (pop (killE kill q.2.1) q.2.2).1 (pop (killE kill q.2.1) q.2.2).2
    | e => some (e, (pop (killE kill q.2.1) q.2.2).1, (pop (killE kill q.2.1) q.2.2).2)
/-- leaving a block -/
def blkD (id : Nat) : Out → Option Out
  | (.exit id', env, st) => if id' = id then some (.normal, env, st) else some (.exit id', env, st)
  | (.normal, env, st) => some (.normal, env, st)
  | (.ret, env, st) => some (.ret, env, st)

def exec (n : Nat) : SCode → List D → St → Option Out
  | .skip, env, st => some (.normal, env, st)
  | .ret, env, st => some (.ret, env, st)
  | .exit id, env, st => some (.exit id, env, st)
  | .ops l, env, st => (evOps R l env [] st).map fun q => (.normal, q.1, q.2.2)
  | .ifs l c a b, env, st => (evOps R l env [] st).bind fun q => (boolD (rd q.1 q.2.1 c)).bind fun t =>
    if t = true then exec n a q.1 q.2.2 else exec n b q.1 q.2.2
  | .seq a b, env, st => (exec n a env st).bind fun q => match q.1 with
    | .normal => exec n b q.2.1 q.2.2
    | e => some (e, q.2.1, q.2.2)
  | .block id a, env, st => (exec n a env st).bind (blkD id)
  | .loop kill a, env, st => loopN (fun env st => exec n a env st) kill n env st
  | .nilc d x sz bytes a, env, st => if isNilV (rdV st (cp (getT env x))) = true then some (.ret, env.set d (.v (.slc sz [])), st) else exec n a env st
  | .range k f x ps a b, env, st => (iterD st k f ps.length (cp (getT env x))).bind fun xs => rangeN (rgB (fun env st => exec n a env st) (fun env st => exec n b env st)) ps (env.map cp) xs st
  | .grow d n sz bytes, env, st => growD d sz bytes env st (getT env d) (getT env n)
  | .clone d x sz bytes, env, st => ((rdV st (cp (getT env x))).bind (slcOf sz)).bind (cloneD d sz bytes env st)

def resOf (env : List D) (st : St) : SRes → Option D
  | .var i => some (getT env i)
  | .cell sz i => opLoad st sz (cp (getT env i))
def retA (n : Nat) (ds : List D) : Option (List V) → Option D
  | some x => some (.v (.agg x))
  | none => if refsBelows n ds = true then some (.agg (ds.map cp1)) else none
/-- is it the end of the block? -/
def fullB (e : Nat) : Option Blk → Bool
  | some (.row xs) => decide (e = xs.length)
  | _ => false
/-- with the right to append, if there is no room -/
def linOf : Bool → V → D
  | true, .slc z xs => .lin z xs
  | _, x => .v x
/-- a part of a result: rows of the frame that goes are read -/
def frz (st : St) (n : Nat) : D → Option D
  | .own r z off len x => if r.lvl < n then some (.own r z off len x) else (rdV st (.own r z off len x)).map .v
  | .arr r i off len => if r.lvl < n then some (.arr r i off len) else (rdV st (.arr r i off len)).map .v
  | d => some d
def frzs (st : St) (n : Nat) : List D → Option (List D)
  | [] => some []
  | d :: r => (frz st n d).bind fun x => (frzs st n r).map (x :: ·)
/-- a result, when the function's frame (number n) goes -/
def retD (st : St) (n : Nat) : D → Option D
  | .v x => some (.v x)
  | .nils z => some (.lin z [])
  | .lin z xs => some (.lin z xs)
  | .own r z off len x => if r.lvl < n then some (.own r z off len x) else (rdV st (.own r z off len x)).map (linOf (x && fullB (off + len) (getB st r)))
  | .arr r i off len => if r.lvl < n then some (.arr r i off len) else (rdV st (.arr r i off len)).map .v
  | .agg ds => (frzs st n ds).bind fun ds' => retA n ds' (toVs ds')
  | .tup _ => none
  | d => if refsBelow n d = true then some d else none
def isNils : D → Bool
  | .nils _ => true
  | _ => false
/-- a result; k: nil is told from what has no elements -/
def retK (k : Bool) (st : St) (n : Nat) (d : D) : Option D := if k = true ∧ isNils d = true then some d else retD st n d
def retDs (k : Bool) (st : St) (n : Nat) : List D → Option (List D)
  | [] => some []
  | d :: r => (retK k st n d).bind fun x => (retDs k st n r).map (x :: ·)
def resList (env : List D) (st : St) : List SRes → Option (List D)
  | [] => some []
  | r :: l => (resOf env st r).bind fun x => (resList env st l).map (x :: ·)
def oneD (st : St) : List D → Option (D × St)
  | [d] => some (d, st)
  | ds => some (.tup ds, st)
/-- a function's end -/
def endD (k : Bool) (res : List SRes) (st : St) (env : List D) (st' : St) : Option (D × St) :=
  (resList env st' res).bind fun ds => (retDs k st' st.length ds).bind (oneD st'.tail)
def finD (k : Bool) (res : List SRes) (st : St) : Out → Option (D × St)
  | (.exit _, _, _) => none
  | (.normal, env, st') => endD k res st env st'
  | (.ret, env, st') => endD k res st env st'
def runF (n : Nat) (F : SFunc) (args : List D) (st : St) : Option (D × St) :=
  if args.length = F.np then (exec R n F.code (args ++ List.replicate (F.nv - F.np) .undef) ([] :: st)).bind (finD F.keep F.res st) else none
end

/-- A program: its functions, and those that are told by a word of their own. -/
structure Prg where
  fn : Nat → Option SFunc
  prim : Nat → Option (List D → St → Option (D × St))

def runN (G : Prg) : Nat → Run
  | 0 => fun _ _ _ => none
  | n + 1 => fun f args st => match G.prim f with
    | some F => F args st
    | none => match G.fn f with
      | some F => runF (runN G n) n F args st
      | none => none

/-- the iterators that are known: kind, function -/
class Iters where
  it : List (Nat × Nat)
end Go.Q
