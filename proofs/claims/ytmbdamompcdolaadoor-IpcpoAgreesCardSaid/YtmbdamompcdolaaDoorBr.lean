/- What a law's arguments are, as pure data: any bool, integer, string, slice, struct, array of such. No condition. -/
import Derived.Test.YtmbdamompcdolaaDoorEvC
import Derived.WalkKit
import Derived.OpenShut
import Derived.ShutString
import Derived.ChangeOld
import Derived.Below
import Derived.Carry
import Derived.SizedLaws
set_option linter.unusedVariables false
set_option linter.unusedSimpArgs false
namespace Go.Q
open Go.ChangeShapes Go.WideShapes Go.RowKit

/-- the type of a cell -/
inductive CT where
  | bool
  | int (k : IntKind)
  | str
  | slc (ag : Bool) (bytes : Nat) (ts : List CT)
def elemOf (ag : Bool) (cs : List V) : V := if ag = true then .agg cs else cs.headD (.bool false)
mutual
def hasC : CT → V → Prop
  | .bool, x => ∃ b, x = .bool b
  | .int k, x => ∃ n, x = .int k n ∧ k.min ≤ n ∧ n ≤ k.max
  | .str, x => ∃ s : List UInt8, x = .str s ∧ s.length ≤ reachBytes
  | .slc ag bytes ts, x => ∃ ys : List V, x = .slc (lenC ts) ys ∧ ys.length * bytes ≤ reachBytes ∧ ∀ y ∈ ys, ∃ cs, y = elemOf ag cs ∧ hasCs ts cs
def hasCs : List CT → List V → Prop
  | [], xs => xs = []
  | t :: ts, xs => ∃ x r, xs = x :: r ∧ hasC t x ∧ hasCs ts r
def lenC : List CT → Nat
  | [] => 0
  | _ :: ts => lenC ts + 1
end
theorem lenC_eq : ∀ (ts : List CT), lenC ts = ts.length
  | [] => by simp [lenC]
  | t :: ts => by simp [lenC, lenC_eq ts]
theorem hasCs_len : ∀ {ts : List CT} {xs : List V}, hasCs ts xs → xs.length = ts.length
  | [], xs, h => by simp only [hasCs] at h; subst h; rfl
  | t :: ts, xs, h => by
    simp only [hasCs] at h
    obtain ⟨x, r, rfl, _, h2⟩ := h
    simp [hasCs_len h2]
theorem hasCs_append : ∀ {ts ts' : List CT} {xs xs' : List V}, hasCs ts xs → hasCs ts' xs' → hasCs (ts ++ ts') (xs ++ xs')
  | [], ts', xs, xs', h, h' => by simp only [hasCs] at h; subst h; exact h'
  | t :: ts, ts', xs, xs', h, h' => by
    simp only [hasCs] at h
    obtain ⟨x, r, rfl, h1, h2⟩ := h
    simp only [List.cons_append, hasCs]
    exact ⟨x, r ++ xs', rfl, h1, hasCs_append h2 h'⟩
inductive All2 {α β : Type} (R : α → β → Prop) : List α → List β → Prop
  | nil : All2 R [] []
  | cons {a b l m} (h : R a b) (t : All2 R l m) : All2 R (a :: l) (b :: m)
theorem All2.append {α β : Type} {R : α → β → Prop} {l l' : List α} {m m' : List β} (h : All2 R l m) (h' : All2 R l' m') : All2 R (l ++ l') (m ++ m') := by
  induction h with
  | nil => exact h'
  | cons a b ih => exact .cons a ih
theorem All2.len {α β : Type} {R : α → β → Prop} {l : List α} {m : List β} (h : All2 R l m) : l.length = m.length := by
  induction h with
  | nil => rfl
  | cons a b ih => simp [ih]
theorem All2.get {α β : Type} {R : α → β → Prop} {l : List α} {m : List β} (h : All2 R l m) : ∀ (i : Nat) (hi : i < l.length) (hj : i < m.length), R l[i] m[i] := by
  induction h with
  | nil => intro i hi; simp at hi
  | cons a b ih => intro i hi hj; cases i with
    | zero => exact a
    | succ i => exact ih i (by simpa using hi) (by simpa using hj)

section
variable (P : Program)
def isAggT (t : TypeId) : Bool := match P.underlying t with
  | some (.struct _) => true
  | some (.array _ _) => true
  | _ => false
def flatF (F : TypeId → Option (List CT)) : Nat → List Field → Option (List CT)
  | _, [] => some []
  | off, f :: fs => if f.offset = off then (F f.type).bind fun ts => if P.cellsOf f.type = ts.length then (flatF F (off + ts.length) fs).map (ts ++ ·) else none else none
def flatT : Nat → TypeId → Option (List CT)
  | 0, _ => none
  | n + 1, t => match P.underlying t with
    | some .bool => some [.bool]
    | some (.int k) => some [.int k]
    | some .string => some [.str]
    | some (.slice e) => (flatT n e).bind fun ts => if P.cellsOf e = ts.length ∧ ts.length ≠ 0 ∧ (isAggT P e = false → ts.length = 1) then some [.slc (isAggT P e) (P.bytesOf e) ts] else none
    | some (.struct fs) => (flatF P (flatT n) 0 fs.toList).bind fun ts => if P.cellsOf t = ts.length then some ts else none
    | some (.array k e) => (flatT n e).bind fun ts => if P.cellsOf e = ts.length ∧ P.cellsOf t = k * ts.length then some (List.replicate k ts).flatten else none
    | _ => none
end

def Lw (w : World) (b : Nat) : Nat := match w.heap[b]? with
  | some (.cells c _ _) => c.size
  | _ => 0
theorem lt_Lw {w : World} {b o : Nat} {v : Value} (h : w.cell? ⟨b, o, none⟩ = some v) : o < Lw w b := by
  unfold World.cell? at h
  unfold Lw
  split at h <;> first | (cases h; done) | skip
  rename_i c e fr hb
  simp only [Option.isSome_none, Bool.false_eq_true, if_false] at h
  simp only at hb
  rw [hb]
  exact (Array.getElem?_eq_some_iff.1 h).1
theorem Lw_fresh {w : World} {b : Nat} (h : w.heap.size ≤ b) : Lw w b = 0 := by
  unfold Lw
  rw [Array.getElem?_eq_none h]
def CR (w : World) (x : V) (v : Value) : Prop := x.isCell = true ∧ RelV w (Lw w) x v
theorem exists_list {α : Type} {Q : Nat → α → Prop} : ∀ n, (∀ i, i < n → ∃ y, Q i y) → ∃ ys : List α, ys.length = n ∧ ∀ i (h : i < ys.length), Q i ys[i]
  | 0, _ => ⟨[], rfl, fun i h => by simp at h⟩
  | n + 1, h => by
    obtain ⟨ys, h1, h2⟩ := exists_list n (fun i hi => h i (by omega))
    obtain ⟨y, hy⟩ := h n (by omega)
    refine ⟨ys ++ [y], by simp [h1], fun i hi => ?_⟩
    by_cases e : i < ys.length
    · rw [List.getElem_append_left e]; exact h2 i e
    · have : i = ys.length := by simp at hi; omega
      subst this
      simp only [List.getElem_concat_length]
      rw [h1]; exact hy

section
variable {H : Type} {enc : TypeId × Value → H} {P : Program} {w : World} {sp : Nat → Bool} {held : Bool}
def Small (P : Program) (t : TypeId) (d : DataW H) : Prop := ∀ k ∈ d.weights P t, k ≤ reachBytes
/-- what is read of cells -/
def Reads (enc : TypeId × Value → H) (P : Program) (w : World) (sp : Nat → Bool) (held : Bool) (F : TypeId → Option (List CT)) : Prop :=
  ∀ t ts, F t = some ts → ∀ fuel cs y, DataW.trod enc P w 0 sp held fuel t cs = some y → Small P t y.1 → ∃ xs, hasCs ts xs ∧ All2 (CR w) xs cs

theorem fields_ok {F : TypeId → Option (List CT)} (IH : Reads enc P w sp held F) {m : Nat} {cs : List Value} : ∀ (fs : List Field) (off : Nat) (ts : List CT) (ds : List (DataW H × List MemPlace)), flatF P F off fs = some ts → ds.length = fs.length →
    (∀ (i : Nat) (f : Field), fs[i]? = some f → DataW.trod enc P w 0 sp held m f.type ((cs.drop f.offset).take (P.cellsOf f.type)) = ds[i]?) → (∀ k ∈ DataW.weightsEach P (fs.map (·.type)) (ds.map (·.1)), k ≤ reachBytes) →
    off + ts.length = cs.length → ∃ xs, hasCs ts xs ∧ All2 (CR w) xs (cs.drop off)
  | [], off, ts, ds, hf, hl, ht, hw, hlen => by
    simp only [flatF] at hf; cases hf
    simp at hlen
    rw [List.drop_of_length_le (by omega)]
    exact ⟨[], by simp [hasCs], .nil⟩
  | f :: fs, off, ts, ds, hf, hl, ht, hw, hlen => by
    simp only [flatF] at hf
    split at hf <;> first | (cases hf; done) | skip
    rename_i hoff
    obtain ⟨t1, h1, h2⟩ := Option.bind_eq_some_iff.1 hf
    split at h2 <;> first | (cases h2; done) | skip
    rename_i hc
    obtain ⟨t2, h3, rfl⟩ := Option.map_eq_some_iff.1 h2
    cases ds with
    | nil => simp at hl
    | cons d ds =>
      have g1 := ht 0 f rfl
      simp only [List.getElem?_cons_zero] at g1
      simp only [List.map_cons, DataW.weightsEach, List.mem_append] at hw
      obtain ⟨x1, k1, k2⟩ := IH f.type t1 h1 m _ d g1 (fun k hk => hw k (.inl hk))
      rw [hoff, hc] at k2
      obtain ⟨x2, k3, k4⟩ := fields_ok IH fs (off + t1.length) t2 ds h3 (by simpa using hl) (fun i g hg => ht (i + 1) g (by simpa using hg)) (fun k hk => hw k (.inr hk)) (by simp at hlen; omega)
      refine ⟨x1 ++ x2, hasCs_append k1 k3, ?_⟩
      have := k2.append k4
      rw [← List.drop_drop, List.take_append_drop] at this
      exact this
theorem weightsAll_mem {e : TypeId} : ∀ {ds : List (DataW H)} {d : DataW H}, d ∈ ds → ∀ k ∈ d.weights P e, k ∈ DataW.weightsAll P e ds
  | d0 :: ds, d, h, k, hk => by
    simp only [DataW.weightsAll, List.mem_append]
    rcases List.mem_cons.1 h with rfl | h
    · exact .inl hk
    · exact .inr (weightsAll_mem h k hk)
theorem items_ok {F : TypeId → Option (List CT)} (IH : Reads enc P w sp held F) {m : Nat} {cs : List Value} {e : TypeId} {ts : List CT} (hF : F e = some ts) (hc : P.cellsOf e = ts.length) {total : Nat} {ds : List (DataW H × List MemPlace)} (hl : ds.length = total)
    (ht : ∀ i, i < total → DataW.trod enc P w 0 sp held m e ((cs.drop (i * P.cellsOf e)).take (P.cellsOf e)) = ds[i]?) (hw : ∀ k ∈ DataW.weightsAll P e (ds.map (·.1)), k ≤ reachBytes) (hlen : cs.length = total * ts.length) : ∀ (k j : Nat), j + k = total →
    ∃ xs, hasCs (List.replicate k ts).flatten xs ∧ All2 (CR w) xs (cs.drop (j * ts.length))
  | 0, j, hj => by
    have : j = total := by omega
    subst this
    rw [List.drop_of_length_le (by omega)]
    exact ⟨[], by simp [hasCs], .nil⟩
  | k + 1, j, hj => by
    have hlt : j < ds.length := by omega
    have g1 := ht j (by omega)
    rw [List.getElem?_eq_getElem hlt] at g1
    obtain ⟨x1, k1, k2⟩ := IH e ts hF m _ _ g1 (fun q hq => hw q (weightsAll_mem (by exact List.mem_map.2 ⟨ds[j], List.getElem_mem _, rfl⟩) q hq))
    obtain ⟨x2, k3, k4⟩ := items_ok IH hF hc hl ht hw hlen k (j + 1) (by omega)
    rw [hc] at k2
    refine ⟨x1 ++ x2, by rw [List.replicate_succ, List.flatten_cons]; exact hasCs_append k1 k3, ?_⟩
    have := k2.append k4
    rw [Nat.succ_mul, ← List.drop_drop, List.take_append_drop] at this
    exact this

theorem add_none {a : Addr} (h : a.spot = none) (n m : Nat) : (a.add n).add m = ⟨a.block, a.off + n + m, none⟩ := by
  obtain ⟨b, o, s⟩ := a
  simp only at h
  subst h
  unfold Addr.add
  by_cases h1 : n = 0 <;> by_cases h2 : m = 0 <;> simp [h1, h2]
theorem flat_ok : ∀ n, Reads enc P w sp held (flatT P n)
  | 0 => fun t ts h => by simp [flatT] at h
  | n + 1 => fun t ts h fuel cs y hy hw => by
    have IH := flat_ok n
    simp only [flatT] at h
    split at h <;> first | (cases h; done) | skip
    · rename_i hu; cases h
      obtain ⟨b, rfl, rfl⟩ := DataW.trod_bool hu hy
      exact ⟨[.bool b], by simp [hasCs, hasC], .cons ⟨rfl, .bool b⟩ .nil⟩
    · rename_i k hu; cases h
      obtain ⟨m, rfl, rfl, hwf⟩ := DataW.trod_int hu hy
      simp only [Lit.wf, Bool.and_eq_true, decide_eq_true_eq] at hwf
      exact ⟨[.int k m], by simp [hasCs, hasC, hwf], .cons ⟨rfl, .int k m⟩ .nil⟩
    · rename_i hu; cases h
      obtain ⟨s, rfl, rfl, hs⟩ := DataW.trod_string hu hy
      refine ⟨[.str s.data.toList], ?_, .cons ⟨rfl, .str s⟩ .nil⟩
      have := hw s.data.toList.length (by simp [DataW.weights])
      simp only [hasCs, hasC]
      exact ⟨_, [], rfl, ⟨_, rfl, this⟩, rfl⟩
    · rename_i e hu
      obtain ⟨te, h1, h2⟩ := Option.bind_eq_some_iff.1 h
      split at h2 <;> cases h2
      rename_i hc
      obtain ⟨hc, hne, hag⟩ := hc
      rcases DataW.trod_slice hu hy with ⟨rfl, rfl⟩ | ⟨a, len, cap, elems, rest, m, _, rfl, rfl, _, hcap, _, hel, hel2, _, _⟩
      · refine ⟨[.slc (lenC te) []], ?_, .cons ⟨rfl, .slc0 _ _ _⟩ .nil⟩
        simp only [hasCs, hasC]
        exact ⟨_, [], rfl, ⟨[], rfl, by simp, fun y hy => by simp at hy⟩, rfl⟩
      · have hwt : (elems.length + rest.length) * P.bytesOf e ≤ reachBytes := hw _ (by simp [DataW.weights, hu])
        have hwe : ∀ d ∈ elems, Small P e d.1 := fun d hd k hk => hw k (by
          simp only [DataW.weights, hu, List.mem_cons, List.mem_append]
          exact .inr (.inl (weightsAll_mem (List.mem_map.2 ⟨d, hd, rfl⟩) k hk)))
        -- each element
        have each : ∀ i, i < len → ∃ xs : List V, hasCs te xs ∧ a.spot = none ∧ ∀ j (hj : j < xs.length), ∃ v, w.cell? ⟨a.block, a.off + i * P.cellsOf e + j, none⟩ = some v ∧ CR w xs[j] v := fun i hi => by
          have hl : i < elems.length := by omega
          have g := hel2 i hi
          rw [List.getElem?_eq_getElem hl] at g
          obtain ⟨c, g1, g2⟩ := Option.bind_eq_some_iff.1 g
          obtain ⟨_, g3, g4⟩ := World.cells?_some g1
          obtain ⟨xs, k1, k2⟩ := IH e te h1 m c _ g2 (hwe _ (List.getElem_mem _))
          have hxl := hasCs_len k1
          have hspot : a.spot = none := by
            have := g4 0 (by omega)
            rw [List.getElem?_eq_getElem (by omega)] at this
            have h0 : (hel2 0 (by omega)) = (hel2 0 (by omega)) := rfl
            have g0 := hel2 0 (by omega)
            rw [List.getElem?_eq_getElem (by omega)] at g0
            obtain ⟨c0, q1, q2⟩ := Option.bind_eq_some_iff.1 g0
            obtain ⟨_, q3, q4⟩ := World.cells?_some q1
            have q5 := q4 0 (by omega)
            rw [List.getElem?_eq_getElem (by omega)] at q5
            simp only [Nat.zero_mul, Addr.add, if_true] at q5
            unfold World.cell? at q5
            split at q5 <;> first | (cases q5; done) | skip
            split at q5 <;> first | (cases q5; done) | skip
            rename_i hs
            simpa using hs
          refine ⟨xs, k1, hspot, fun j hj => ?_⟩
          have hjc : j < c.length := by rw [← k2.len]; exact hj
          have := g4 j (by omega)
          rw [List.getElem?_eq_getElem hjc, add_none hspot] at this
          exact ⟨_, this, k2.get j hj hjc⟩
        obtain ⟨xss, e1, e2⟩ := exists_list len each
        have hys : ∀ i (h : i < xss.length), cellsV (elemOf (isAggT P e) xss[i]) = xss[i] := fun i hi => by
          obtain ⟨q1, q2, q3⟩ := e2 i hi
          unfold elemOf
          split
          · rfl
          · rename_i hag2
            have hl := hasCs_len q1
            rw [hag (by simpa using hag2)] at hl
            cases hx : xss[i] with
            | nil => rw [hx] at hl; simp at hl
            | cons x r =>
              rw [hx] at hl
              have : r = [] := by simpa using hl
              subst this
              obtain ⟨v, _, hv⟩ := q3 0 (by rw [hx]; simp)
              have hcell := hv.1
              simp only [hx, List.getElem_cons_zero] at hcell
              simp only [List.headD_cons]
              cases x <;> first | rfl | (simp [V.isCell] at hcell; done)
        refine ⟨[.slc (lenC te) (xss.map (elemOf (isAggT P e)))], ?_, .cons ⟨rfl, ?_⟩ .nil⟩
        · simp only [hasCs, hasC]
          refine ⟨_, [], rfl, ⟨_, rfl, ?_, fun y hy => ?_⟩, rfl⟩
          · simp only [List.length_map, e1, ← hel]
            exact Nat.le_trans (Nat.mul_le_mul_right _ (Nat.le_add_right _ _)) hwt
          · obtain ⟨cs, hcs, rfl⟩ := List.mem_map.1 hy
            obtain ⟨i, hi, rfl⟩ := List.getElem_of_mem hcs
            exact ⟨_, rfl, (e2 i hi).1⟩
        · by_cases h0 : len = 0
          · have : xss = [] := List.length_eq_zero_iff.1 (by omega)
            subst this
            subst h0
            exact .slc0 _ _ _
          · have hspot : a.spot = none := (e2 0 (by omega)).2.1
            obtain ⟨b, o, s⟩ := a
            simp only at hspot
            subst hspot
            have hlen : len = (xss.map (elemOf (isAggT P e))).length := by simp [e1]
            rw [hlen]
            have hcell : ∀ i j, i < xss.length → j < lenC te → ∃ v, w.cell? ⟨b, o + i * lenC te + j, none⟩ = some v ∧ ∃ (hi : i < xss.length) (hj : j < (xss[i]).length), CR w (xss[i])[j] v := fun i j hi hj => by
              obtain ⟨q1, q2, q3⟩ := e2 i hi
              rw [lenC_eq] at hj ⊢
              have hl := hasCs_len q1
              obtain ⟨v, q4, q5⟩ := q3 j (by omega)
              rw [hc] at q4
              exact ⟨v, q4, hi, by omega, q5⟩
            refine .slc (lenC te) _ b o cap (fun i j => (w.cell? ⟨b, o + i * lenC te + j, none⟩).getD undef) (by simp [e1]; exact hcap) (fun i hi => ?_) (fun i j hi hj => ?_) (fun i j hi hj => ?_) (fun i hi j hj => ?_) (fun i hi j hj => ?_)
            · simp only [List.getElem_map]
              rw [hys i (by simpa using hi), lenC_eq]
              exact hasCs_len (e2 i (by simpa using hi)).1
            · obtain ⟨v, q, _⟩ := hcell i j (by simpa using hi) hj
              exact lt_Lw q
            · obtain ⟨v, q, _⟩ := hcell i j (by simpa using hi) hj
              rw [q]; rfl
            · have hi' : i < xss.length := by simpa using hi
              simp only [List.getElem_map] at hj ⊢
              have hj' : j < (xss[i]).length := by rw [hys i hi'] at hj; exact hj
              obtain ⟨v, q, _, _, q5⟩ := hcell i j hi' (by rw [lenC_eq, ← hasCs_len (e2 i hi').1]; exact hj')
              have := q5.1
              simp only [hys i hi']
              exact this
            · have hi' : i < xss.length := by simpa using hi
              simp only [List.getElem_map] at hj ⊢
              have hj' : j < (xss[i]).length := by rw [hys i hi'] at hj; exact hj
              obtain ⟨v, q, _, _, q5⟩ := hcell i j hi' (by rw [lenC_eq, ← hasCs_len (e2 i hi').1]; exact hj')
              rw [q]
              simp only [hys i hi', Option.getD_some]
              exact q5.2
    · rename_i fs hu
      obtain ⟨ts', h1, h2⟩ := Option.bind_eq_some_iff.1 h
      split at h2 <;> cases h2
      rename_i hc
      obtain ⟨ds, m, _, rfl, hcs, hdl, ht⟩ := DataW.trod_struct hu hy
      have := fields_ok IH fs.toList 0 ts ds h1 (by simpa using hdl) (fun i f hf => ht i f (by simpa using hf)) (fun k hk => hw k (by simp only [DataW.weights, hu]; exact hk)) (by omega)
      simpa using this
    · rename_i k e hu
      obtain ⟨te, h1, h2⟩ := Option.bind_eq_some_iff.1 h
      split at h2 <;> cases h2
      rename_i hc
      obtain ⟨ds, m, _, rfl, hcs, hdl, ht⟩ := DataW.trod_array hu hy
      have := items_ok IH h1 hc.1 hdl ht (fun q hq => hw q (by simp only [DataW.weights, hu]; exact hq)) (by rw [hcs, hc.2]) k 0 (by omega)
      simpa using this

/-! ### All arguments -/
def argT (P : Program) (n : Nat) (t : TypeId) : Option (Bool × List CT) := (flatT P n t).bind fun ts => if isAggT P t = false → ts.length = 1 then some (isAggT P t, ts) else none
def argTs (P : Program) (n : Nat) : List TypeId → Option (List (Bool × List CT))
  | [] => some []
  | t :: ts => (argT P n t).bind fun a => (argTs P n ts).map (a :: ·)
def hasArgs : List (Bool × List CT) → List V → Prop
  | [], xs => xs = []
  | a :: r, xs => ∃ cs xr, xs = elemOf a.1 cs :: xr ∧ hasCs a.2 cs ∧ hasArgs r xr
theorem arg_ok {n : Nat} {t : TypeId} {a : Bool × List CT} (h : argT P n t = some a) {v : Value} {d : DataW H} {ps : List MemPlace} (hd : DataW.Trod enc P w 0 sp held t v d ps) {base : Nat} (hv : Value.okWide P w .any base t v) (hw : Small P t d) :
    ∃ cs, hasCs a.2 cs ∧ RelV w (Lw w) (elemOf a.1 cs) v := by
  obtain ⟨ts, h1, h2⟩ := Option.bind_eq_some_iff.1 h
  split at h2 <;> cases h2
  rename_i hone
  obtain ⟨fuel, hf⟩ := hd
  obtain ⟨cs, k1, k2⟩ := flat_ok n t ts h1 fuel _ _ hf hw
  refine ⟨cs, k1, ?_⟩
  by_cases hag : isAggT P t = true
  · have hval : ∃ arr, v = .agg arr := by
      unfold isAggT at hag
      unfold Value.okWide at hv
      split at hag <;> first | (cases hag; done) | skip
      · rename_i fs hu; simp only [hu] at hv; obtain ⟨arr, rfl, _⟩ := hv; exact ⟨arr, rfl⟩
      · rename_i fs hu; simp only [hu] at hv; obtain ⟨arr, rfl, _⟩ := hv; exact ⟨arr, rfl⟩
    obtain ⟨arr, rfl⟩ := hval
    simp only [hag, elemOf, if_true]
    simp only [Value.cells] at k2
    have hl := k2.len
    exact .agg cs arr (by simpa using hl) (fun i hi => (k2.get i hi (by rw [← hl]; exact hi)).1) (fun i hi => by
      have := (k2.get i hi (by rw [← hl]; exact hi)).2
      simpa using this)
  · have hagf : isAggT P t = false := by simpa using hag
    have hl1 := hasCs_len k1
    rw [hone hagf] at hl1
    have hval : v.cells.toList = [v] := by
      have hnot : ∀ arr, v ≠ .agg arr := by
        rintro arr rfl
        cases n with
        | zero => simp [flatT] at h1
        | succ n =>
          simp only [flatT] at h1
          split at h1 <;> first | (cases h1; done) | skip
          · rename_i hu; obtain ⟨b, hb⟩ := okWide_bool hu hv; cases hb
          · rename_i k hu; obtain ⟨b, hb⟩ := okWide_int hu hv; cases hb
          · rename_i hu; obtain ⟨b, hb⟩ := okWide_string hu hv; cases hb
          · rename_i e hu; obtain ⟨b, c, e', hb⟩ := okWide_slice hu hv; cases hb
          · rename_i fs hu; simp [isAggT, hu] at hagf
          · rename_i fs hu; simp [isAggT, hu] at hagf
      unfold Value.cells
      split
      · rename_i arr; exact absurd rfl (hnot arr)
      · rfl
    rw [hval] at k2
    cases cs with
    | nil => simp at hl1
    | cons x r =>
      have hr : r = [] := by simpa using hl1
      subst hr
      cases k2 with | cons q _ =>
      simp only [hagf, elemOf, Bool.false_eq_true, if_false, List.headD_cons]
      exact q.2
theorem args_ok {n : Nat} {base : Nat} : ∀ {ts : List TypeId} {as : List (Bool × List CT)} {vs : List Value} {ds : List (DataW H)} {ps : List MemPlace}, argTs P n ts = some as → DataW.TrodAll enc P w 0 sp held ts vs ds ps →
    (∀ (j : Nat) t v, ts[j]? = some t → vs[j]? = some v → Value.okWide P w .any base t v) → (∀ k ∈ DataW.weightsEach P ts ds, k ≤ reachBytes) → ∃ xs, hasArgs as xs ∧ All2 (RelV w (Lw w)) xs vs
  | [], as, vs, ds, ps, h, hT, hv, hw => by
    simp only [argTs] at h; cases h
    obtain ⟨rfl, _, _⟩ := trodAll_nil hT
    exact ⟨[], by simp [hasArgs], .nil⟩
  | t :: ts, as, vs, ds, ps, h, hT, hv, hw => by
    simp only [argTs] at h
    obtain ⟨a, h1, h2⟩ := Option.bind_eq_some_iff.1 h
    obtain ⟨r, h3, rfl⟩ := Option.map_eq_some_iff.1 h2
    obtain ⟨v, vs', d, ds', p, q, rfl, rfl, rfl, g1, g2⟩ := trodAll_cons hT
    simp only [DataW.weightsEach, List.mem_append] at hw
    obtain ⟨cs, k1, k2⟩ := arg_ok h1 g1 (hv 0 t v rfl rfl) (fun k hk => hw k (.inl hk))
    obtain ⟨xs, k3, k4⟩ := args_ok h3 g2 (fun j t v hj hv' => hv (j + 1) t v (by simpa using hj) (by simpa using hv')) (fun k hk => hw k (.inr hk))
    exact ⟨elemOf a.1 cs :: xs, ⟨cs, xs, rfl, k1, k3⟩, .cons k2 k4⟩
end
section
variable {H : Type} {enc : TypeId × Value → H} {P : Program}
theorem trodAll_below (hl : laidOutB P = true) {W W' : World} (hb : Below W.heap.size W W') : ∀ {ts : List TypeId} {vs : List Value} {ds : List (DataW H)} {ps : List MemPlace}, (ts.all fun t => P.readableRec t && decide (t < P.types.size)) = true →
    DataW.TrodAll enc P W 0 (fun _ => true) true ts vs ds ps → DataW.TrodAll enc P W' 0 (fun b => decide (b < W.heap.size)) true ts vs ds ps
  | [], vs, ds, ps, h, hT => by
    obtain ⟨rfl, rfl, rfl⟩ := trodAll_nil hT
    exact trodAll_mk0
  | t :: ts, vs, ds, ps, h, hT => by
    obtain ⟨v, vs', d, ds', p, q, rfl, rfl, rfl, g1, g2⟩ := trodAll_cons hT
    simp only [List.all_cons, Bool.and_eq_true, decide_eq_true_eq] at h
    have hlt := hT.lt
    exact trodAll_cons_mk (Below.trod hl h.1.1 h.1.2 g1 hb (fun x hx => hlt x (by simp [hx]))) (trodAll_below hl hb (by simpa using h.2) g2)
end
end Go.Q
