/- The seat of HttpqParses: the reference's parts (a line cut at each blank): its contract. No condition. -/
import Derived.Test.YtdcknpkednpckaaGreatDoorHo
import Derived.Test.YtdcknpkednpckaaGreatDoorEp
import Derived.Shelf.Abstract
import Derived.WalkKit
import Derived.Lib.Walk
import Derived.Deep.LoopGhost
import Derived.Laws.OwnMore
import Derived.OwnWalk
import Derived.Scope
import Derived.Test.YtdcknpkednpckaaGreatDoorProg
set_option linter.all false
namespace Go.Proofs.YtdcknpkednpckaaGreatDoor
open Go.RowKit Go.Q
set_option maxRecDepth 100000
set_option maxHeartbeats 4000000
def mkS (c : List UInt8) : Value := .string ⟨c.toArray⟩
def pF : List (List UInt8) → List UInt8 → List UInt8 → List (List UInt8) × List UInt8
  | D, c, [] => (D, c)
  | D, c, x :: s => if x = 32 then pF (D ++ [c]) [] s else pF D (c ++ [x]) s
theorem pF_split : ∀ (s : List UInt8) (D : List (List UInt8)) (c : List UInt8), (∀ b ∈ c, ¬ b = 32) → (pF D c s).1 ++ [(pF D c s).2] = D ++ splitC 32 (c ++ s)
  | [], D, c, hc => by rw [List.append_nil, splitC_one' 32 c hc]; rfl
  | x :: s, D, c, hc => by
    by_cases h : x = 32
    · subst h
      rw [splitC_more' 32 s c hc]
      have ih := pF_split s (D ++ [c]) [] (by simp)
      simp only [pF, if_true]
      rw [ih]
      simp
    · have ih := pF_split s D (c ++ [x]) (fun b hb => by
        rcases List.mem_append.1 hb with hb | hb
        · exact hc b hb
        · rw [List.mem_singleton.1 hb]; exact h)
      simp only [pF, if_neg h]
      rw [ih]
      simp
theorem pF_add : ∀ (a b : List UInt8) (D : List (List UInt8)) (c : List UInt8), pF D c (a ++ b) = pF (pF D c a).1 (pF D c a).2 b
  | [], b, D, c => rfl
  | x :: a, b, D, c => by
    by_cases h : x = 32
    · simp only [List.cons_append, pF, if_pos h]; exact pF_add a b _ _
    · simp only [List.cons_append, pF, if_neg h]; exact pF_add a b _ _
theorem pF_len : ∀ (s : List UInt8) (D : List (List UInt8)) (c : List UInt8), (pF D c s).1.length ≤ D.length + s.length ∧ (pF D c s).2.length ≤ c.length + s.length
  | [], D, c => ⟨Nat.le_refl _, Nat.le_refl _⟩
  | x :: s, D, c => by
    by_cases h : x = 32
    · simp only [pF, if_pos h]; have := pF_len s (D ++ [c]) []; simp at this ⊢; omega
    · simp only [pF, if_neg h]; have := pF_len s D (c ++ [x]); simp at this ⊢; omega
theorem Tryz.info9 : (Tryz.prog.info? 9).map (fun i => (i.zero, i.size, i.bytes)) = some (some (.string ByteArray.empty), 1, 16) := by kernel_rfl
theorem Tryz.underlying41 : Tryz.prog.underlying 41 = some (.slice 9) := by kernel_rfl
abbrev vs (D : List (List UInt8)) (c : List UInt8) : List Value := (D ++ [c]).map mkS
def At (s : ByteArray) (k : Nat) (D : List (List UInt8)) (c : List UInt8) : Prop := pF [] [] (s.data.toList.take k) = (D, c)
theorem At.len {s : ByteArray} {k : Nat} {D : List (List UInt8)} {c : List UInt8} (h : At s k D c) (hk : k ≤ s.size) : D.length ≤ k ∧ c.length ≤ k := by
  have := pF_len (s.data.toList.take k) [] []
  rw [h, List.length_take] at this
  simp only [List.length_nil, Nat.zero_add] at this
  omega
theorem At.cut {s : ByteArray} {k : Nat} {D : List (List UInt8)} {c : List UInt8} (h : At s k D c) (hk : k < s.size) (hb : s[k] = 32) : At s (k + 1) (D ++ [c]) [] := by
  unfold At at h ⊢
  rw [List.take_add_one, pF_add, h]
  have : s.data.toList[k]? = some 32 := by rw [← hb]; simp [ByteArray.getElem_eq_getElem_data, hk]
  rw [this]
  rfl
theorem At.on {s : ByteArray} {k : Nat} {D : List (List UInt8)} {c : List UInt8} (h : At s k D c) (hk : k < s.size) (hb : ¬ s[k] = 32) : At s (k + 1) D (c ++ [s[k]]) := by
  unfold At at h ⊢
  rw [List.take_add_one, pF_add, h]
  have : s.data.toList[k]? = some s[k] := by simp [ByteArray.getElem_eq_getElem_data, hk]
  rw [this]
  show pF D c [s[k]] = _
  simp only [pF, if_neg hb]
theorem At.all {s : ByteArray} {k : Nat} {D : List (List UInt8)} {c : List UInt8} (h : At s k D c) (hk : s.size ≤ k) : D ++ [c] = splitC 32 s.data.toList := by
  unfold At at h
  rw [List.take_of_length_le (by exact hk)] at h
  have := pF_split s.data.toList [] [] (by simp)
  rw [h] at this
  simpa using this
theorem mkAsd {p : Prop} (h : p) : Aside p := h
theorem parts17 (s : ByteArray) (w : World) (hs : s.size ≤ 100000) : Calls Tryz.prog 17 #[.string s] w fun e w' =>
    ∃ v, e = .returned v ∧ w'.ownsRow w.heap.size 9 1 v (splitC 32 s.data.toList).length ((splitC 32 s.data.toList).map mkS) ∧ Below w.heap.size w w' := by
  obtain ⟨i0, hi, hz0, hz1, hz2⟩ := info_parts Tryz.info9
  go_enter Tryz.func17, Tryz.ntmps17
  go_wp2
  go_loopg [3, 4] s.size (fun g v i wr => ∃ (k : Nat) (D : List (List UInt8)) (c : List UInt8), k + g = s.size ∧ i = .int .i64 k ∧ Aside (At s k D c) ∧ wr.ownsRow w.heap.size 9 1 v (D.length + 1) (vs D c) ∧ Below w.heap.size w wr)
  case atStart => exact ⟨0, [], [], by omega, rfl, rfl, World.ownsRow_lit w _ 1 (Nat.le_refl _) (by decide) rfl, (Below.refl _ w).alloc (Nat.le_refl _) _⟩
  case round =>
    obtain ⟨k, D, c, hkg, rfl, hA, hown, hbel⟩ := hrel
    have hl := hA.out.len (by omega)
    obtain ⟨gb, cap, rfl, hgb⟩ : ∃ gb cap, u3 = .slice (some ⟨gb, 0, none⟩) (D.length + 1) cap ∧ w.heap.size ≤ gb ∧ gb < wr.heap.size := by
      rcases hown.2 with ⟨_, h0⟩ | ⟨gb, cap, cur, e, hb, hg, _⟩
      · omega
      · exact ⟨gb, cap, e, hb, (Array.getElem?_eq_some_iff.1 hg).1⟩
    have hbel := mkAsd hbel
    by_cases hk : k < s.size
    · by_cases hb : ((s[k]'hk).toNat : Int) = 32
      · go_wp2_with (at_builtin; refine wpList_append_own _ rfl _ _ 41 rfl w.heap.size 9 i0 (.string ByteArray.empty) 1 16 Tryz.underlying41 hi hz0 hz1 hz2 rfl (by decide) _ _ _ rfl (hown.alloc _) ⟨wr.heap.size, 0, none⟩ 1 1 [.string ⟨#[]⟩] rfl rfl ?c1 ?c2 ?c3 ?c4 ?c5 ?_)
        case c1 =>
          intro j u hj
          match j, hj with
          | 0, hj => simp at hj; subst hj; simp [Addr.add]
        case c2 => intro u hu; simp at hu; subst hu; rfl
        case c3 => unfold maxLen; omega
        case c4 => omega
        case c5 => simp; omega
        · intro v' w1 hown' hgrow _
          have hB : Below w.heap.size w w1 := (hbel.out.alloc (by omega) _).grown hgrow (by simp; omega) (fun j hj => by simp [Value.ownBlock] at hj; omega)
          have hA' : At s (k + 1) (D ++ [c]) [] := hA.out.cut hk (UInt8.toNat_inj.1 (by show _ = 32; omega))
          have ex : vs D c ++ [.string ⟨#[]⟩] = vs (D ++ [c]) [] := by simp [vs, mkS]
          have hown2 : w1.ownsRow w.heap.size 9 1 v' ((D ++ [c]).length + 1) (vs (D ++ [c]) []) := by
            simpa [vs, mkS] using hown'
          clear hgrow hown hown' hbel hA
          go_wp2
          go_roundg (gk - 1)
          case measure => omega
          case rel => exact ⟨k + 1, D ++ [c], [], by omega, by go_num, hA', hown2, hB⟩
      · have hcell : wr.cell? ⟨gb, D.length, none⟩ = some (mkS c) := by
          rw [hown.cellAt D.length (by omega)]; simp [vs]
        have hfr := hown.frozenAt D.length
        unfold mkS at hcell
        have hown := mkAsd hown
        have s1 : ((k : Int) + 1) ≤ (s.size : Int) := by omega
        have s2 : (0 : Int) ≤ (k : Int) := by omega
        have s3 : (k : Int) ≤ (k : Int) + 1 := by omega
        have hsl := fun wx => run_slice_string (P := Tryz.prog) wx 9 s .i64 .i64 (k : Int) ((k : Int) + 1) (by kernel_rfl) s2 s3 s1
        go_wp2
        go_region
        all_goals (try go_wp2)
        go_roundg (gk - 1)
        case measure => omega
        case rel =>
          have e1 : Value.string ((⟨c.toArray⟩ : ByteArray) ++ s.extract k (k + 1)) = mkS (c ++ [s[k]'hk]) := by
            have e2 : s.extract k (k + 1) = ⟨[s[k]'hk].toArray⟩ := by
              rw [Lib.extract_eq]
              have e3 : (s.data.toList.drop k).take (k + 1 - k) = [s[k]'hk] := by
                have hk' : k < s.data.toList.length := hk
                rw [List.drop_eq_getElem_cons hk', show k + 1 - k = 1 by omega]
                rfl
              rw [e3]
            rw [e2]
            unfold mkS
            congr 1
          rw [e1]
          have hst := (hown.out.stored D.length (mkS (c ++ [s[k]'hk]))).1
          have e4 : (vs D c).set D.length (mkS (c ++ [s[k]'hk])) = vs D (c ++ [s[k]'hk]) := by simp [vs]
          rw [e4] at hst
          refine ⟨k + 1, D, c ++ [s[k]'hk], by omega, by go_num, hA.out.on hk (fun h => hb (by rw [h]; rfl)), hst.drew, ((hbel.out).setCell (by show w.heap.size ≤ gb; omega) _).drew⟩
    · go_wp2
      go_ret
      have hg0 : s.size ≤ k := by omega
      have e := hA.out.all hg0
      rw [← e]
      refine ⟨_, rfl, ?_, hbel.out⟩
      simpa using hown
section
variable [Known]
theorem back_own {P : Program} {w w' : World} {g : Gh} {st : St} {v : Value} {l : List (List UInt8)} (hl : 0 < l.length) (hb : Below w.heap.size w w') (ho : w'.ownsRow w.heap.size 9 1 v l.length (l.map mkS)) (hS : RelS w g st)
    (hown : ∀ b p, g.own b = some p → p.isCell = true) : ∃ g', Back w g w' g' (.v (.slc 1 (l.map V.str))) st v := by
  obtain ⟨gb, cap, rfl, h1, h2, h3⟩ : ∃ gb cap, v = .slice (some ⟨gb, 0, none⟩) l.length cap ∧ w.heap.size ≤ gb ∧ gb < w'.heap.size ∧ l.length ≤ cap := by
    rcases ho.2 with ⟨_, h0⟩ | ⟨gb, cap, cur, e, hb, hg, hc, _⟩
    · omega
    · exact ⟨gb, cap, e, hb, (Array.getElem?_eq_some_iff.1 hg).1, hc⟩
  have hG : Grow w w' g (g.new gb l.length none) := {
    os := hb.os
    tape := hb.tape
    output := hb.output
    size := hb.size
    heap := hb.block
    L := fun b hb => by simp only [Gh.new]; rw [if_neg (by omega)]
    M := fun b hb => by
      simp only [Gh.new]
      constructor
      · rintro (h | ⟨h, _⟩)
        · exact h
        · omega
      · exact .inl
    own := fun b hb => by simp only [Gh.new]; rw [if_neg (by omega)]
    refs := fun r hr => ⟨hr, rfl, rfl, rfl⟩
    own' := fun b q hb h => by
      simp only [Gh.new] at h
      split at h
      · cases h
      · have := (hS.own b q h).2; omega
    fresh := fun b hbb => by
      have hf := hS.fresh b (Nat.le_trans hb.size hbb)
      simp only [Gh.new]
      rw [if_neg (by omega)]
      refine ⟨hf.1, ?_⟩
      rintro (h | ⟨h, _⟩)
      · exact hf.2 h
      · omega }
  refine ⟨g.new gb l.length none, hG.ext hS, hG.relS hS (fun r => Iff.rfl), ?_, fun b p hb => ?_⟩
  · refine .v _ _ _ ?_
    have hl : (l.map V.str).length = l.length := by simp
    rw [← hl]
    refine .slc 1 _ _ 0 _ (fun i j => mkS (l.getD i [])) (by rw [hl]; exact h3) (fun i hi => by simp [cellsV]) (fun i j hi hj => ?_) (fun i j hi hj => ?_) (fun i hi j hj => ?_) (fun i hi j hj => ?_)
    · simp only [Gh.new, if_true]; simp at hi; omega
    · have hi' : i < l.length := by simpa using hi
      have e : (0 : Nat) + i * 1 + j = i := by omega
      rw [e, ho.cellAt i (by omega), List.getElem?_map, List.getElem?_eq_getElem hi']
      simp [List.getD, hi']
    · simp only [List.getElem_map, cellsV] at hj ⊢
      have : j = 0 := by simpa using hj
      subst this; rfl
    · have hi' : i < l.length := by simpa using hi
      simp only [List.getElem_map, cellsV] at hj ⊢
      have : j = 0 := by simpa using hj
      subst this
      simp only [List.getElem_cons_zero, List.getD_eq_getElem?_getD, List.getElem?_eq_getElem hi', Option.getD_some]
      have := RelV.str (w := w') (L := (g.new gb l.length none).L) ⟨l[i].toArray⟩
      simpa [mkS] using this
  · simp only [Gh.new] at hb
    split at hb
    · cases hb
    · exact .inl (hown b p hb)
theorem parts_ok {f : Nat} {P : Program} (hf : FnOk P f) (hc : ∀ (s : ByteArray) (w : World), s.size ≤ 100000 → Calls P f #[.string s] w fun e w' =>
    ∃ v, e = .returned v ∧ w'.ownsRow w.heap.size 9 1 v (splitC 32 s.data.toList).length ((splitC 32 s.data.toList).map mkS) ∧ Below w.heap.size w w') : PrimOk P f (primPure partsF) := by
  intro args st r h
  unfold primPure at h
  obtain ⟨xs, h1, h2⟩ := bind_some' h
  obtain ⟨d, h3, rfl⟩ := map_some' h2
  have ha := allV_at h1
  subst ha
  unfold partsF at h3
  split at h3 <;> first | (cases h3; done) | skip
  rename_i s
  split at h3 <;> first | (cases h3; done) | skip
  rename_i hlen
  cases h3
  refine ⟨rfl, hf, fun vals w g hl hv hS hown => ?_⟩
  obtain ⟨v1, rfl⟩ : ∃ a, vals = #[a] := ⟨vals[0]'(by simp at hl; omega), by
    apply Array.ext
    · simp at hl; simp [← hl]
    · intro i hi hj
      have : i = 0 := by simp at hj; omega
      subst this; rfl⟩
  obtain ⟨a, e1, rfl⟩ := strOfD (hv 0 (by simp))
  simp only [List.getElem_toArray, List.getElem_cons_zero] at e1
  subst e1
  refine (hc a w (by rw [Lib.size_eq]; exact hlen)).mono fun e w' ⟨v, he, ho, hb⟩ => ?_
  obtain ⟨g', B⟩ := back_own (P := P) (by
    rcases hq : splitC 32 a.data.toList with _ | ⟨x, y⟩
    · exact absurd hq (splitC_ne 32 _)
    · simp) hb ho hS hown
  exact ⟨v, g', he, B⟩
end
end Go.Proofs.YtdcknpkednpckaaGreatDoor
