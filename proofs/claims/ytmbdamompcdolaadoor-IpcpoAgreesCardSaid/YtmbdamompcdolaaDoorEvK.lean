/- When slim code is a program's code: the check. Definitions alone; no condition. -/
import Derived.Test.YtmbdamompcdolaaDoorEvE
set_option linter.unusedVariables false
set_option linter.unusedSimpArgs false
namespace Go.Q

section
variable (P : Program)
def uSlc (t : TypeId) : Option TypeId := match P.underlying t with
  | some (.slice e) => some e
  | _ => none
def uArr (t : TypeId) : Option (Nat × TypeId) := match P.underlying t with
  | some (.array n e) => some (n, e)
  | _ => none
def uStr (t : TypeId) : Bool := match P.underlying t with
  | some .string => true
  | _ => false
def uInt (t : TypeId) : Option IntKind := match P.underlying t with
  | some (.int k) => some k
  | _ => none
def uStruct (t : TypeId) : Option (Array Field) := match P.underlying t with
  | some (.struct f) => some f
  | _ => none
/-- some true: a struct or an array -/
def uAgg (t : TypeId) : Option Bool := match P.underlying t with
  | some (.struct _) => some true
  | some (.array _ _) => some true
  | some _ => some false
  | none => none
def uMap (t : TypeId) : Option (TypeId × TypeId) := match P.underlying t with
  | some (.map k e) => some (k, e)
  | _ => none
theorem of_uMap {t : TypeId} {q : TypeId × TypeId} (h : uMap P t = some q) : P.underlying t = some (.map q.1 q.2) := by
  unfold uMap at h; split at h <;> first | (cases h; assumption) | cases h
def szT (t : TypeId) : Option Nat := (P.info? t).map (·.size)
def zeroT (t : TypeId) : Option Value := (P.info? t).bind (·.zero)
theorem of_uSlc {t e : TypeId} (h : uSlc P t = some e) : P.underlying t = some (.slice e) := by
  unfold uSlc at h; split at h <;> first | (cases h; assumption) | cases h
theorem of_uArr {t : TypeId} {q : Nat × TypeId} (h : uArr P t = some q) : P.underlying t = some (.array q.1 q.2) := by
  unfold uArr at h; split at h <;> first | (cases h; assumption) | cases h
theorem of_uStr {t : TypeId} (h : uStr P t = true) : P.underlying t = some .string := by
  unfold uStr at h; split at h <;> first | assumption | cases h
theorem of_uInt {t : TypeId} {k : IntKind} (h : uInt P t = some k) : P.underlying t = some (.int k) := by
  unfold uInt at h; split at h <;> first | (cases h; assumption) | cases h
theorem of_uStruct {t : TypeId} {f : Array Field} (h : uStruct P t = some f) : P.underlying t = some (.struct f) := by
  unfold uStruct at h; split at h <;> first | (cases h; assumption) | cases h
theorem of_uAgg_true {t : TypeId} (h : uAgg P t = some true) : ∃ d, P.underlying t = some d ∧ d.isRow = true := by
  unfold uAgg at h; split at h <;> first | (cases h; done) | exact ⟨_, by assumption, rfl⟩
theorem of_uAgg_false {t : TypeId} (h : uAgg P t = some false) : ∃ d, P.underlying t = some d ∧ d.isRow = false := by
  unfold uAgg at h
  split at h <;> first | (cases h; done) | skip
  rename_i d h1 h2 hu
  exact ⟨d, hu, by cases d <;> first | rfl | exact (h1 _ rfl).elim | exact (h2 _ _ rfl).elim⟩
theorem of_szT {t : TypeId} {n : Nat} (h : szT P t = some n) : ∃ i, P.info? t = some i ∧ i.size = n := map_some' h
theorem of_zeroT {t : TypeId} {z : Value} (h : zeroT P t = some z) : ∃ i, P.info? t = some i ∧ i.zero = some z := bind_some' h
end

/-! ### Constants and operands -/
def chkC : Value → D → Bool
  | .bool b, .v (.bool c) => b == c
  | .int k n, .v (.int j m) => decide (k = j) && decide (n = m)
  | .string s, .v (.str l) => s.data.toList == l
  | .slice none 0 0, .nils _ => true
  | .pointer none, .v .nilp => true
  | .nilIface, .v .nili => true
  | .nilFunc, .v .nilf => true
  | .map none, .v .nilm => true
  | _, _ => false
def chkZ : List Value → List D → Bool
  | [], [] => true
  | v :: vs, d :: ds => chkC v d && chkZ vs ds
  | _, _ => false

section
variable (μ : List Nat) (τ : List (Option Nat))
def chkO : Operand → Opd → Bool
  | .tmp t, .x i => μ[i]? == some t
  | .tmp t, .t j => τ.idxOf? (some t) == some j
  | .const v, .c d => chkC v d
  | .func f, .c (.v (.fn g)) => f == g
  | _, _ => false
def chkL : List Operand → List Opd → Bool
  | [], [] => true
  | x :: xs, y :: ys => chkO μ τ x y && chkL xs ys
  | _, _ => false
def chkOpt : Option Operand → Option Opd → Bool
  | none, none => true
  | some x, some y => chkO μ τ x y
  | _, _ => false
def orF {α : Type} (x : Option α) (F : α → Bool) : Bool := match x with
  | some e => F e
  | none => false
theorem of_orF {α : Type} {x : Option α} {F : α → Bool} (h : orF x F = true) : ∃ e, x = some e ∧ F e = true := by
  cases x with
  | none => cases h
  | some e => exact ⟨e, rfl, h⟩
/-- parts of a literal: places, sizes, operands -/
def chkPs (pl : Nat → Option (Nat × Nat)) : List (Nat × Operand) → List (Nat × Nat × Opd) → Bool
  | [], [] => true
  | (i, x) :: xs, (o, s, y) :: ys => (orF (pl i) fun q => q.1 == o && q.2 == s) && chkO μ τ x y && chkPs pl xs ys
  | _, _ => false

variable (P : Program)
def fieldsOk (fs : Array Field) : Bool := fs.toList.all fun f => (P.info? f.type).isSome
def plStruct (fs : Array Field) (i : Nat) : Option (Nat × Nat) := (fs[i]?).bind fun f => (szT P f.type).map fun s => (f.offset, s)
def osz (t : TypeId) (s : Option Nat) : Bool := match uAgg P t with
  | some true => (szT P t).isSome && s == szT P t
  | some false => s == none && szT P t == some 1
  | none => false
def builtinOf (c : Call) : Option Builtin := match c.callee with
  | .builtin b => some b
  | _ => none
def clsT (t : TypeId) : Option Nat := match P.underlying t with
  | some .bool => some 0
  | some (.int _) => some 1
  | some .string => some 2
  | _ => none
def chkEqF : Nat → List Field → List Nat → Bool
  | _, [], [] => true
  | i, f :: fs, k :: ks => f.name != "_" && f.offset == i && clsT P f.type == some k && chkEqF (i + 1) fs ks
  | _, _, _ => false
def chkKd (t : TypeId) (k : Kd) (y : Opd) : Bool := match P.underlying t, k with
  | some .bool, .b => true
  | some (.struct fs), .g ks => !P.stoodInHeld t && !P.eqGuardType P.depth t && chkEqF P 0 fs.toList ks
  | some (.array n e), .g ks => !P.eqGuardType P.depth t && szT P e == some 1 && (orF (clsT P e) fun k => ks == List.replicate n k)
  | some (.slice _), .s => true
  | some (.pointer _), .p => true
  | some (.map _ _), .m => true
  | some (.func _ _ _), .f => true
  | some (.interface _), .i => match y with | .c _ => true | _ => false
  | _, _ => false

/-- is an operation the slim one? -/
def chkOp (op : Op) (s : SOp) : Bool := match s with
  | .mov y => (match op with | .move x => chkO μ τ x y | .assign x => chkO μ τ x y | _ => false)
  | .take y => (match op with | .move x => chkO μ τ x y | .assign x => chkO μ τ x y | _ => false)
  | .pick c' a' b' => (match op with | .pick c a b => chkO μ τ c c' && chkO μ τ a a' && chkO μ τ b b' | _ => false)
  | .alloc _ z => (match op with | .alloc t => (orF (zeroT P t) fun zv => chkZ zv.cells.toList (cellsOf z)) | _ => false)
  | .box _ y => (match op with | .box t x => chkO μ τ x y | _ => false)
  | .build zs ps => (match op with
    | .build t parts => (orF (zeroT P t) fun zv => chkZ zv.cells.toList zs) &&
      (match uStruct P t, uArr P t with
        | some fs, _ => fieldsOk P fs && chkPs μ τ (plStruct P fs) parts.toList ps
        | none, some q => (orF (szT P q.2) fun s => chkPs μ τ (fun i => some (i * s, s)) parts.toList ps)
        | none, none => false)
    | _ => false)
  | .lit sz ys => (match op with
    | .buildSlice t n parts => (orF (uSlc P t) fun e => szT P e == some sz && (zeroT P e).isSome && parts.toList.map (·.1) == List.range n && decide (n * sz ≤ 16777216) && chkL μ τ (parts.toList.map (·.2)) ys)
    | _ => false)
  | .load s y => (match op with | .load t a => chkO μ τ a y && osz P t s | _ => false)
  | .loadR _ s y => (match op with | .load t a => chkO μ τ a y && osz P t s | _ => false)
  | .loadT y _ => (match op with | .load t a => chkO μ τ a y && osz P t none | _ => false)
  | .callB f y _ => (match op with | .call c => (match c.callee with | .value (.func g) => f == g && chkL μ τ c.args.toList [y] | _ => false) | _ => false)
  | .loadF _ _ s y => (match op with | .load t a => chkO μ τ a y && osz P t s | _ => false)
  | .store sz y z => (match op with | .store t a x => chkO μ τ a y && chkO μ τ x z && szT P t == some sz | _ => false)
  | .storeS sz y z _ => (match op with | .store t a x => chkO μ τ a y && chkO μ τ x z && szT P t == some sz | _ => false)
  | .bin o x' y' => (match op with | .binOp o' _ x y _ => decide (o = o') && chkO μ τ x x' && chkO μ τ y y' | _ => false)
  | .eq k neg x' y' => (match op with | .binOp o t x y _ => decide (o = if neg then .neq else .eql) && chkKd P t k y' && chkO μ τ x x' && chkO μ τ y y' | _ => false)
  | .un o x' => (match op with | .unOp o' _ x => decide (o = o') && chkO μ τ x x' | _ => false)
  | .cvi k x' => (match op with | .convert s d x => uInt P d == some k && (P.underlying s).isSome && chkO μ τ x x' | _ => false)
  | .s2b x' => (match op with | .convert s d x => uStr P s && (orF (uSlc P d) fun e => uInt P e == some .u8) && chkO μ τ x x' | _ => false)
  | .b2s x' => (match op with | .convert s d x => uStr P d && (orF (uSlc P s) fun e => uInt P e == some .u8) && chkO μ τ x x' | _ => false)
  | .sub sz x' l h m => (match op with
    | .slice t x lo hi mx => chkO μ τ x x' && chkOpt μ τ lo l && chkOpt μ τ hi h && chkOpt μ τ mx m &&
      (orF (uSlc P t) fun e => szT P e == some sz)
    | _ => false)
  | .subA n x' l h m => (match op with
    | .slice t x lo hi mx => chkO μ τ x x' && chkOpt μ τ lo l && chkOpt μ τ hi h && chkOpt μ τ mx m &&
      (orF (uArr P t) fun q => q.1 == n && szT P q.2 == some 1)
    | _ => false)
  | .nck x' => (match op with
    | .nilCheck x => chkO μ τ x x'
    | _ => false)
  | .fa off x' => (match op with
    | .fieldAddr t x f => chkO μ τ x x' && (orF (uStruct P t) fun fs => (orF (fs[f]?) fun q => q.offset == off && (orF (szT P q.type) fun s => s != 0)))
    | _ => false)
  | .fld off s x' => (match op with
    | .field t x f => chkO μ τ x x' && (orF (uStruct P t) fun fs => (orF (fs[f]?) fun q => q.offset == off && osz P q.type s))
    | _ => false)
  | .ia sz x' i' => (match op with
    | .indexAddr t x i => chkO μ τ x x' && chkO μ τ i i' && (orF (uSlc P t) fun e => szT P e == some sz)
    | _ => false)
  | .iaA len sz x' i' => (match op with
    | .indexAddr t x i => chkO μ τ x x' && chkO μ τ i i' && (orF (uArr P t) fun q => q.1 == len && szT P q.2 == some sz)
    | _ => false)
  | .idx x' i' => (match op with | .index t x i => chkO μ τ x x' && chkO μ τ i i' && uStr P t | _ => false)
  | .idxA len sz s x' i' => (match op with
    | .index t x i => chkO μ τ x x' && chkO μ τ i i' && (orF (uArr P t) fun q => q.1 == len && szT P q.2 == some sz && osz P q.2 s)
    | _ => false)
  | .len x' => (match op with
    | .call c => (match builtinOf c, c.args.toList, c.argTypes.toList with
      | some .len, [x], [t] => chkO μ τ x x' && (uSlc P t).isSome
      | _, _, _ => false)
    | _ => false)
  | .capn x' => (match op with
    | .call c => (match builtinOf c, c.args.toList, c.argTypes.toList with
      | some .cap, [x], [t] => chkO μ τ x x' && (uSlc P t).isSome
      | _, _, _ => false)
    | _ => false)
  | .mkmap _ => (match op with | .makeMap t none => true | _ => false)
  | .look kd ok z x' k' => (match op with
    | .lookup t x k ok' => ok == ok' && chkO μ τ x x' && chkO μ τ k k' && (orF (uMap P t) fun q => clsT P q.1 == some kd && (orF (zeroT P q.2) fun zv => chkC zv z))
    | _ => false)
  | .mupd kd x' k' v' => (match op with
    | .mapUpdate t x k v => chkO μ τ x x' && chkO μ τ k k' && chkO μ τ v v' && (orF (uMap P t) fun q => clsT P q.1 == some kd)
    | _ => false)
  | .lenm x' => (match op with
    | .call c => (match builtinOf c, c.args.toList, c.argTypes.toList with
      | some .len, [x], [t] => chkO μ τ x x' && (uMap P t).isSome
      | _, _, _ => false)
    | _ => false)
  | .lens x' => (match op with
    | .call c => (match builtinOf c, c.args.toList, c.argTypes.toList with
      | some .len, [x], [t] => chkO μ τ x x' && uStr P t
      | _, _, _ => false)
    | _ => false)
  | .subs x' l h => (match op with
    | .slice t x lo hi none => chkO μ τ x x' && chkOpt μ τ lo l && chkOpt μ τ hi h && uStr P t
    | _ => false)
  | .cst d => (match op with
    | .call c => (match builtinOf c, c.args.toList, c.argTypes.toList with
      | some .len, [x], [t] => (match uArr P t, d with | some q, .v (.int .i64 n) => decide (n = (q.1 : Int)) | _, _ => false)
      | _, _, _ => false)
    | _ => false)
  | .subl sz x' l' => (match op with
    | .slice t x (some lo) none none => chkO μ τ x x' && chkO μ τ lo l' && (orF (uSlc P t) fun e => szT P e == some sz)
    | _ => false)
  | .app sz bytes x' y' => (match op with
    | .call c => (match builtinOf c, c.args.toList, c.argTypes.toList with
      | some .append, [x, y], [t, u] => chkO μ τ x x' && chkO μ τ y y' && (orF (uSlc P t) fun e => (orF (P.info? e) fun i => i.size == sz && i.bytes == bytes && bytes != 0 && sz != 0 && (orF (i.zero) fun zv => zv.cells.size == sz))) && (uStr P u || (uSlc P u).isSome)
      | _, _, _ => false)
    | _ => false)
  | .cpy _ _ _ => false
  | .make sz bytes z n' c' => (match op with
    | .makeSlice t n c => chkO μ τ n n' && chkO μ τ c c' && (orF (uSlc P t) fun e => (orF (P.info? e) fun i => i.size == sz && i.bytes == bytes && bytes != 0 && (orF (i.zero) fun zv => chkZ zv.cells.toList (cellsOf z))))
    | _ => false)
  | .call _ f ys => (match op with | .call c => (match c.callee with | .value (.func g) => f == g && chkL μ τ c.args.toList ys | _ => false) | _ => false)
  | .callv y ys => (match op with | .call c => (match c.callee with | .value x => chkO μ τ x y && chkL μ τ c.args.toList ys | _ => false) | _ => false)
  | .mkf f fs cs => (match op with | .makeFunc (.func g) first captured => f == g && chkL μ τ first.toList fs && chkL μ τ captured.toList cs | _ => false)
  | .mki t y => (match op with | .makeInterface u x => t == u && chkO μ τ x y && (match P.underlying u with | some (.interface _) => false | some _ => true | none => false) | _ => false)
  | .ext i y => (match op with | .extract x j => i == j && chkO μ τ x y | _ => false)
  | .s2a n y => (match op with | .sliceToArrayPointer t x => chkO μ τ x y && (orF (uArr P t) fun q => q.1 == n && n != 0 && szT P q.2 == some 1) | _ => false)
  | .mx x' y' => (match op with
    | .call c => (match builtinOf c, c.args.toList with | some .max, [x, y] => chkO μ τ x x' && chkO μ τ y y' | _, _ => false)
    | _ => false)
  | .mn x' y' => (match op with
    | .call c => (match builtinOf c, c.args.toList with | some .min, [x, y] => chkO μ τ x x' && chkO μ τ y y' | _, _ => false)
    | _ => false)
  | .clr sz z x' => (match op with
    | .call c => (match builtinOf c, c.args.toList, c.argTypes.toList with
      | some .clear, [x], [t] => chkO μ τ x x' && (orF (uSlc P t) fun e => szT P e == some sz && sz != 0 && (orF (zeroT P e) fun zv => chkZ zv.cells.toList (cellsOf z) && zv.cells.size == sz))
      | _, _, _ => false)
    | _ => false)
  | .die => true
end
end Go.Q
