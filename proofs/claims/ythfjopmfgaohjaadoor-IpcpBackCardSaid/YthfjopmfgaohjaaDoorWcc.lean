/- slices.Concat of rows of bytes, and octs.Join: their contracts. No condition. -/
import Derived.Test.YthfjopmfgaohjaaDoorEp
import Derived.Shelf.Abstract
import Derived.WalkKit
import Derived.Lib.Walk
import Derived.Deep.LoopGhost
import Derived.Laws.OwnMore
import Derived.Laws.AppendOwnNone
import Derived.OwnWalk
import Derived.Deep.AppendSrc
import Derived.Scope
import Derived.Test.YthfjopmfgaohjaaDoorProg
set_option linter.all false
namespace Go.Proofs.YthfjopmfgaohjaaDoor
open Go.RowKit Go.Q
set_option maxRecDepth 100000
set_option maxHeartbeats 4000000
theorem Tryd.info5 : (Tryd.prog.info? 5).map (fun i => (i.zero, i.size, i.bytes)) = some (some (.int .u8 0), 1, 1) := by kernel_rfl
theorem asd {p : Prop} (h : p) : Aside p := h
theorem wpList_app_eq {P : Program} {w : World} {ops : Array Oper} {rest : List Oper} {o : Oper} {a : Act} {Q : Exit → Act → World → Prop} (hgd : o.guard = none) (s x : Operand) (t u : TypeId)
    (ho : o.op = .call { callee := .builtin .append, args := #[s, x], argTypes := #[t, u] }) {vs vx v' : Value} {w' : World} (hs : a.eval s = vs) (hx : a.eval x = vx)
    (hrun : (Builtin.append_ #[t, u] o.type #[vs, vx]).run P w = .ok v' w') (h : wpList P ops Q rest (a.put o.dst v') w') : wpList P ops Q (o :: rest) a w := by
  refine wpList_plain hgd fun K hK => ?_
  unfold Oper.wp
  simp [execOp, ho, resolve, invoke, builtin, hs, hx, hrun, Result.andThen]
  exact hK _ _ h
theorem grow33 (n : Nat) (h0 : 0 < n) (hn : n ≤ 100000) (w : World) : Calls Tryd.prog 33 #[.slice none 0 0, .int .i64 n] w fun e w' =>
    ∃ v, e = .returned v ∧ w'.ownsRow w.heap.size 5 1 v 0 [] ∧ Below w.heap.size w w' := by
  obtain ⟨i0, hi, hz0, hz1, hz2⟩ := info_parts Tryd.info5
  letI : Known := ⟨[], []⟩
  have hap := fun wx => run_append_make (P := Tryd.prog) wx 23 3 5 23 i0 (.int .u8 0) .i64 (by kernel_rfl) (by kernel_rfl) hi hz0 (n : Int) (by omega) (by omega) (by omega) (by rw [hz2]; show (n : Int) * 1 ≤ 140737488355328; omega)
  obtain ⟨C, hC, hCs⟩ := hap w
  have hCs : C.size = grownCap w n 0 5 * 1 := by rw [hCs]; simp [Value.cells]
  rw [show ((n : Int)).toNat = n by omega] at hC
  have hge := grownCap_ge w n 0 5
  have hmx := grownCap_le_maxLen w n 0 5 (by unfold maxLen; omega)
  generalize grownCap w n 0 5 = cap at hC hCs hge hmx
  have A := asd (And.intro hCs (And.intro hge hmx))
  clear hCs hge hmx hap
  have n1 : (0 : Int) < n := by omega
  go_enter Tryd.func33, Tryd.ntmps33
  go_wp2_with (at_builtin; refine wpList_app_eq rfl _ _ 23 3 rfl rfl rfl hC ?_)
  go_ret
  obtain ⟨a1, a2, a3⟩ := A.out
  exact ⟨_, rfl, (World.ownsRow_made w C cap (Nat.le_refl _) a3 a1).drew, ((Below.refl _ w).alloc (Nat.le_refl _) _).drew⟩
def PartIs (w : World) (u : Value) (bs : List Value) : Prop := (∃ a c, u = .slice a 0 c ∧ bs = []) ∨ ∃ ad c, u = .slice (some ad) bs.length c ∧ (∀ j x, bs[j]? = some x → w.cell? (ad.add j) = some x) ∧ ∀ x ∈ bs, x.oneCell' = true
theorem PartIs.shape {w : World} {u : Value} {bs : List Value} (h : PartIs w u bs) : ∃ a c, u = .slice a bs.length c := by
  rcases h with ⟨a, c, h1, h2⟩ | ⟨b, c, h, _⟩
  · exact ⟨a, c, by rw [h1, h2]; rfl⟩
  · exact ⟨_, _, h⟩
theorem src0 (a : Option Addr) (c : Nat) (w : World) : Src Tryd.prog 1 23 (.slice a 0 c) 0 [] w := by
  have fc : ∀ w', (Builtin.firstCells 1 0 (.slice a 0 c)).run Tryd.prog w' = .ok ([] : List Value).toArray w' := fun w' => by
    cases a with
    | none => exact run_firstCells_none w' 1 0 0 c
    | some ad => exact run_firstCells_some w' 1 0 ad 0 c [] (by simp) (fun j v hj => by simp at hj)
  exact ⟨.inl ⟨5, Tryd.underlying23⟩, fun w' => rfl, fc w, fc w.drew, rfl, fun u hu => by simp at hu⟩
theorem app0 {w : World} {g : Nat} {v : Value} {n : Nat} {xs : List Value} (i0 : TypeInfo) (hi : Tryd.prog.info? 5 = some i0) (hz1 : i0.size = 1) (ho : w.ownsRow g 5 1 v n xs) (a : Option Addr) (c : Nat) (ty : TypeId) :
    (Builtin.append_ #[23, 23] ty #[v, .slice a 0 c]).run Tryd.prog w = .ok v w := by
  have S := src0 a c w
  rw [← hz1] at S
  rcases ho.2 with ⟨rfl, rfl⟩ | ⟨gb, cap, cur, rfl, _, _, hc, _⟩
  · exact run_append_nothing w 23 23 ty 5 i0 Tryd.underlying23 hi none 0 0 (Nat.le_refl _) _ S
  · exact run_append_nothing w 23 23 ty 5 i0 Tryd.underlying23 hi _ n cap hc _ S
def Ln (bss : List (List Value)) (i : Nat) : Nat := (bss.take i).flatten.length
theorem Ln_succ {bss : List (List Value)} {i : Nat} (h : i < bss.length) : Ln bss (i + 1) = Ln bss i + bss[i].length := by
  unfold Ln
  rw [List.take_add_one, List.getElem?_eq_getElem h]
  simp only [Option.toList_some, List.flatten_append, List.length_append, List.flatten_cons, List.flatten_nil, List.append_nil]
theorem Ln_le {bss : List (List Value)} : ∀ {i j : Nat}, i ≤ j → Ln bss i ≤ Ln bss j := by
  intro i j h
  obtain ⟨d, rfl⟩ := Nat.exists_eq_add_of_le h
  unfold Ln
  rw [List.take_add]
  simp
theorem Ln_all (bss : List (List Value)) : Ln bss bss.length = bss.flatten.length := by unfold Ln; rw [List.take_length]
theorem concat30 (us : List Value) (bss : List (List Value)) (bk o c : Nat) (w : World) (hl : us.length = bss.length) (hp : ∀ i (h : i < us.length) (h2 : i < bss.length), PartIs w us[i] bss[i])
    (hcell : ∀ i (h : i < us.length), w.cell? ⟨bk, o + i, none⟩ = some us[i]) (h0 : 0 < bss.flatten.length) (hn : bss.flatten.length ≤ 100000) (hk : us.length ≤ 1000) :
    Calls Tryd.prog 30 #[.slice (some ⟨bk, o, none⟩) us.length c] w fun e w' =>
      ∃ v, e = .returned v ∧ w'.ownsRow w.heap.size 5 1 v bss.flatten.length bss.flatten ∧ Below w.heap.size w w' := by
  obtain ⟨i0, hi, hz0, hz1, hz2⟩ := info_parts Tryd.info5
  have hLle : ∀ i, i ≤ bss.length → Ln bss i ≤ 100000 := fun i h => by
    have := Ln_le (bss := bss) h
    rw [Ln_all] at this; omega
  have A := asd (And.intro hp (And.intro hcell (And.intro hl (And.intro h0 hn))))
  have ge : ∀ args w, (callFunc 33 args).run Tryd.prog w = .ok (.enter 33 args) w := enters_of Tryd.func33 (by kernel_rfl) rfl
  clear hp hcell h0 hn hl
  go_enter Tryd.func30, Tryd.ntmps30
  go_wp2
  go_loopg [3, 11] us.length (fun g vs vi wr => ∃ i : Nat, i + g = us.length ∧ vi = .int .i64 i ∧ vs = .int .i64 (Ln bss i) ∧ w = wr)
  case atStart => exact ⟨0, by omega, rfl, rfl, rfl⟩
  case round =>
    obtain ⟨i, hig, rfl, rfl, rfl⟩ := hrel
    by_cases hiu : i < us.length
    · have hib : i < bss.length := by have := A.out.2.2.1; omega
      obtain ⟨ad, cp, hu⟩ := (A.out.1 i hiu hib).shape
      have hc := A.out.2.1 i hiu
      rw [hu] at hc
      have hs := Ln_succ (bss := bss) (i := i) hib
      have hs2 := hLle (i + 1) (by omega)
      obtain ⟨ln, hln⟩ : ∃ ln, ln = (bss[i]'hib).length := ⟨_, rfl⟩
      rw [← hln] at hc hs
      have B := asd (And.intro hs hln)
      have k1 : (i : Int) < us.length := by omega
      have k2 : ((Ln bss i : Nat) : Int) + ln ≤ 100000 := by omega
      have k3 : Ln bss i + ln ≤ 100000 := by omega
      clear hu hs hln hs2 hLle
      go_wp2
      go_roundg (gk - 1)
      case measure => omega
      case rel => exact ⟨i + 1, by omega, by go_num, by rw [B.out.1]; go_num, rfl⟩
    · have hie : i = bss.length := by have := A.out.2.2.1; omega
      have hLn : Ln bss i = bss.flatten.length := by rw [hie, Ln_all]
      have hg := grow33 (Ln bss i) (by rw [hLn]; exact A.out.2.2.2.1) (by rw [hLn]; exact A.out.2.2.2.2) w
      have hnn := hLle i (by omega)
      generalize Ln bss i = nn at *
      replace hg := asd hg
      replace hLn := asd hLn
      clear hie hLle
      go_wp2_with (go_at_fn 33; refine hg.out.mono ?_; rintro e w' ⟨v, rfl, hown0, hb0⟩)
      have H := asd (And.intro hown0 hb0)
      clear hown0 hb0 hg
      go_loopg [6, 27] us.length (fun g vn vi wx => ∃ j : Nat, j + g = us.length ∧ vi = .int .i64 j ∧ wx.ownsRow w.heap.size 5 1 vn (Ln bss j) ((bss.take j).flatten) ∧ Below w.heap.size w wx)
      case atStart => exact ⟨0, by omega, rfl, H.out.1, H.out.2⟩
      case round =>
        obtain ⟨j, hjg, rfl, hown, hbel⟩ := hrel
        by_cases hju : j < us.length
        · have hib : j < bss.length := by have := A.out.2.2.1; omega
          have hc := A.out.2.1 j hju
          have hc2 : wr.cell? ⟨bk, o + j, none⟩ = some (us[j]'hju) := (hbel.cell (World.block_lt_of_cell? w _ hc)).trans hc
          clear hc
          have hs := Ln_succ (bss := bss) (i := j) hib
          have hlt : Ln bss (j + 1) ≤ 100000 := by
            have e1 := Ln_le (bss := bss) (show j + 1 ≤ bss.length by omega)
            rw [Ln_all] at e1
            have := A.out.2.2.2.2; omega
          have htk : (bss.take (j + 1)).flatten = (bss.take j).flatten ++ bss[j]'hib := by
            rw [List.take_add_one, List.getElem?_eq_getElem hib]
            simp only [Option.toList_some, List.flatten_append, List.flatten_cons, List.flatten_nil, List.append_nil]
          rcases A.out.1 j hju hib with ⟨a2, c2, hu, hbe⟩ | ⟨ad2, c2, hu, hcs, hone⟩
          · rw [hu] at hc2
            rw [hbe] at hs htk
            have B := asd (And.intro hbel (And.intro hs htk))
            have ap := app0 i0 hi hz1 hown a2 c2
            have ap := asd ap
            clear hu hbe hbel hs htk hlt
            go_wp2_with (at_builtin; refine wpList_app_eq rfl _ _ 23 23 rfl rfl rfl (ap.out _) ?_)
            go_roundg (gk - 1)
            case measure => omega
            case rel => exact ⟨j + 1, by omega, by go_num, by rw [B.out.2.1, B.out.2.2]; simpa using hown, B.out.1⟩
          · rw [hu] at hc2
            obtain ⟨bs, hbs⟩ : ∃ bs, bs = bss[j]'hib := ⟨_, rfl⟩
            rw [← hbs] at hc2 hcs hone hs htk
            have hsrc : ∀ k u, bs[k]? = some u → wr.cell? (ad2.add k) = some u := fun k u hk => by
              have := hcs k u hk
              exact (hbel.cell (World.block_lt_of_cell? w _ this)).trans this
            have B := asd (And.intro hbel (And.intro hs htk))
            have hnl := hbel.size
            clear hu hbs hbel hcs htk
            go_wp2_with (at_builtin; refine wpList_append_own _ rfl _ _ 23 rfl w.heap.size 5 i0 (.int .u8 0) 1 1 Tryd.underlying23 hi hz0 hz1 hz2 rfl (by decide) _ _ _ rfl hown ad2 bs.length c2 bs rfl (by simp) hsrc hone ?c3 ?c4 hnl ?_)
            case c3 => unfold maxLen; omega
            case c4 => omega
            · intro v' w1 hown' hgrow _
              have hB : Below w.heap.size w w1 := B.out.1.grown hgrow hnl (fun q hq => (hown.lt q hq).1)
              have hs := B.out.2.1
              have htk := B.out.2.2
              rw [← hs, ← htk] at hown'
              replace hs := asd hs
              replace htk := asd htk
              clear hgrow hown hsrc hone
              go_wp2
              go_roundg (gk - 1)
              case measure => omega
              case rel => exact ⟨j + 1, by omega, by go_num, hown', hB⟩
        · have hje : j = bss.length := by have := A.out.2.2.1; omega
          rw [hje, Ln_all, List.take_length] at hown
          have hown := asd hown
          go_wp2
          go_ret
          exact ⟨_, rfl, hown.out, hbel⟩
theorem join19 (us : List Value) (bss : List (List Value)) (bk o c : Nat) (w : World) (hl : us.length = bss.length) (hp : ∀ i (h : i < us.length) (h2 : i < bss.length), PartIs w us[i] bss[i])
    (hcell : ∀ i (h : i < us.length), w.cell? ⟨bk, o + i, none⟩ = some us[i]) (h0 : 0 < bss.flatten.length) (hn : bss.flatten.length ≤ 100000) (hk : us.length ≤ 1000) :
    Calls Tryd.prog 19 #[.slice (some ⟨bk, o, none⟩) us.length c] w fun e w' =>
      ∃ v, e = .returned v ∧ w'.ownsRow w.heap.size 5 1 v bss.flatten.length bss.flatten ∧ Below w.heap.size w w' := by
  have A := asd (concat30 us bss bk o c w hl hp hcell h0 hn hk)
  have ce : ∀ args w, (callFunc 30 args).run Tryd.prog w = .ok (.enter 30 args) w := enters_of Tryd.func30 (by kernel_rfl) rfl
  clear hl hp hcell h0 hn hk
  go_enter Tryd.func19, Tryd.ntmps19
  go_wp2_with (go_at_fn 30; refine A.out.mono ?_; rintro e w' ⟨v, rfl, hown, hb⟩)
  go_ret
  exact ⟨_, rfl, hown, hb⟩
end Go.Proofs.YthfjopmfgaohjaaDoor
