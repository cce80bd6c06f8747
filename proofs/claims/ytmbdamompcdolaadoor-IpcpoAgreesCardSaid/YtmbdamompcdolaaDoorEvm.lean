/- Maps: made, looked up, written. No condition. -/
import Derived.Test.YtmbdamompcdolaaDoorEv0
import Derived.MapKept
set_option linter.unusedVariables false
set_option linter.unusedSimpArgs false
set_option linter.unusedSectionVars false
namespace Go.Q
variable [Known]
section
variable {P : Program} {w : World} {g : Gh} {μ : List Nat} {τ : List (Option Nat)} {env ts : List D} {st : St} {a : Act} {o : Oper} {q : Rg} {R : Run}

/-- the store with one block more -/
theorem RelS.new_any {ob : Obj} {r0 : Ref} {z m : Nat} {b0 : Blk} {st' : St} (hS : RelS w g st) (hr : getB st r0 = none)
    (hst : ∀ r, getB st' r = if r = r0 then some b0 else getB st r) (hB : RelB (w.alloc ob) (g.blk r0 w.heap.size z m) r0 b0) : RelS (w.alloc ob) (g.blk r0 w.heap.size z m) st' := by
  have hG := Gh.grow_blk (o := ob) z m hS hr
  have hbe0 : (g.blk r0 w.heap.size z m).be r0 = w.heap.size := by simp [Gh.blk]
  have hbe : ∀ r, (g.blk r0 w.heap.size z m).live r → (r = r0 ∧ (g.blk r0 w.heap.size z m).be r = w.heap.size) ∨ (g.live r ∧ (g.blk r0 w.heap.size z m).be r = g.be r ∧ g.be r < w.heap.size) := fun r hl => by
    rcases hl with hl | rfl
    · exact .inr ⟨hl, (hG.refs r hl).2.1, (hS.be r hl).2.2.2⟩
    · exact .inl ⟨rfl, hbe0⟩
  refine ⟨fun r => ?_, fun r b hb => ?_, fun r hl => ?_, fun r r' hl hl' e => ?_, fun b p hb => ?_, fun b hb => ?_, hG.fresh, gl_keep (hG.keeps hS).cell (hG.keeps hS).L hG.size (fun b hb hm => ⟨fun hh => hm ((hG.M b hb).1 hh), hG.heap b hb⟩) hS.gl⟩
  · rw [hst]
    by_cases e : r = r0
    · subst e; simp [Gh.blk]
    · rw [if_neg e]; simp only [Gh.blk, e, or_false]; exact hS.live r
  · rw [hst] at hb
    by_cases e : r = r0
    · subst e
      rw [if_pos rfl] at hb
      cases hb
      exact hB
    · rw [if_neg e] at hb
      exact hG.blk hS ((hS.live r).2 ⟨b, hb⟩) (hS.blk r b hb)
  · rcases hbe r hl with ⟨rfl, e⟩ | ⟨h1, e, h2⟩
    · rw [e]
      exact ⟨.inr rfl, by simp [Gh.blk], by simp [Gh.blk], by simp⟩
    · obtain ⟨h3, h4, h5, h6⟩ := hS.be r h1
      rw [e]
      refine ⟨.inl h3, ?_, ?_, by simp; omega⟩
      · rw [hG.L _ h2]; exact h4
      · rw [hG.own _ h2, h5]
  · rcases hbe r hl with ⟨rfl, e1⟩ | ⟨h1, e1, h2⟩ <;> rcases hbe r' hl' with ⟨rfl, e2⟩ | ⟨h3, e2, h4⟩
    · rfl
    · omega
    · omega
    · exact hS.inj r r' h1 h3 (by rw [← e1, ← e2]; exact e)
  · by_cases hlt : b < w.heap.size
    · rw [hG.own b hlt] at hb
      exact ⟨.inl (hS.own b p hb).1, by have := (hS.own b p hb).2; simp; omega⟩
    · have := hG.own' b p (by omega) hb
      exact ⟨this.1, this.2.1⟩
  · by_cases hlt : b < w.heap.size
    · rw [hG.own b hlt] at hb; exact hS.nil b hb
    · exact (hG.own' b _ (by omega) hb).2.2 rfl
theorem mkmap_ok (h : RelA w g μ τ env ts st a.tmps) {t : TypeId} {esc : Bool} (hop : o.op = .makeMap t none) (he : evOp R env ts st (.mkmap esc) = some q) : OpRes P o a w (Post w g μ τ a.tmps q) := by
  have main : ∀ (st' : St) (r0 : Ref), getB st r0 = none → (∀ r, getB st' r = if r = r0 then some (.mp []) else getB st r) → OpRes P o a w (Post w g μ τ a.tmps (.map r0, env, ts, st')) := fun st' r0 h1 h2 => by
    have hG := Gh.grow_blk (o := .map #[] 0) 0 0 h.s h1
    refine res_ok (v := .map (some w.heap.size)) (w' := w.alloc (.map #[] 0)) ?_ ⟨_, hG.ext h.s, ⟨h.s.new_any h1 h2 ?_, fun i t hi => hG.relD h.s (h.e i t hi), fun j t hj => hG.relD h.s (h.t j t hj)⟩, ?_⟩
    · simp only [execOp, hop, Option.map_none]; exact run_v rfl
    · refine ⟨#[], 0, ?_, rfl, fun i hi => by simp at hi⟩
      have : (g.blk r0 w.heap.size 0 0).be r0 = w.heap.size := by simp [Gh.blk]
      rw [this]; exact (MapKept.heap_alloc w _).1
    · have e : (g.blk r0 w.heap.size 0 0).be r0 = w.heap.size := by simp [Gh.blk]
      have := RelD.map (w := w.alloc (.map #[] 0)) (g := g.blk r0 w.heap.size 0 0) (.tmp τ.length) r0 (.inr rfl)
      rw [e] at this; exact this
  simp only [evOp] at he
  split at he
  · cases he; exact main _ _ (addBot_none st _) (getB_addBot st _)
  · cases he; exact main _ _ (addB_none st _) (getB_addB st _)

/-! ### Keys -/
theorem keyOf_rel {kd : Nat} {pl : Nat → Pl} {d : D} {v : Value} {k : V} (h : RelD w g pl d v) (hk : keyOfD kd d = some k) : KeyR k v ∧ ∃ x, d = .v x ∧ k = x ∧ ((kd = 0 ∧ ∃ b, x = .bool b) ∨ (kd = 1 ∧ ∃ q n, x = .int q n) ∨ (kd = 2 ∧ ∃ s, x = .str s)) := by
  unfold keyOfD at hk
  split at hk <;> first | (cases hk; done) | skip
  all_goals
    split at hk <;> cases hk
    rename_i hkd
    cases h with | v _ _ _ h =>
    cases h
    first
      | exact ⟨rfl, _, rfl, rfl, .inl ⟨hkd, _, rfl⟩⟩
      | exact ⟨⟨rfl, rfl⟩, _, rfl, rfl, .inr (.inl ⟨hkd, _, _, rfl⟩)⟩
      | exact ⟨rfl, _, rfl, rfl, .inr (.inr ⟨hkd, _, rfl⟩)⟩
/-- keys of a type's kind -/
def OfKind (d : TypeDesc) (k : V) : Prop := ((∃ b, k = .bool b) ∧ d = .bool) ∨ ((∃ q n, k = .int q n) ∧ ∃ q, d = .int q) ∨ ((∃ s, k = .str s) ∧ d = .string)
theorem ofKind {t : TypeId} {kd : Nat} (hc : clsT P t = some kd) {x : V} (h : (kd = 0 ∧ ∃ b, x = .bool b) ∨ (kd = 1 ∧ ∃ q n, x = .int q n) ∨ (kd = 2 ∧ ∃ s, x = .str s)) : ∃ d, P.underlying t = some d ∧ OfKind d x := by
  unfold clsT at hc
  split at hc <;> cases hc
  · exact ⟨_, by assumption, .inl ⟨by simpa using h, rfl⟩⟩
  · exact ⟨_, by assumption, .inr (.inl ⟨by simpa using h, _, rfl⟩)⟩
  · exact ⟨_, by assumption, .inr (.inr ⟨by simpa using h, rfl⟩)⟩
theorem barr_eq {a b : ByteArray} : (a == b) = (a.data.toList == b.data.toList) := by
  by_cases h : a = b
  · subst h; rw [(MapKept.bytes_beq a a).2 rfl, beq_self_eq_true]
  · have h2 : ¬ a.data.toList = b.data.toList := fun e => h (by cases a; cases b; congr 1; exact Array.ext' e)
    rw [beq_eq_false_iff_ne.2 h2]
    cases hb : (a == b) with
    | false => rfl
    | true => exact absurd ((MapKept.bytes_beq a b).1 hb) h
theorem keyEq_rel {d : TypeDesc} {x y : V} {u v : Value} (hd : OfKind d x) (hx : KeyR x u) (hy : KeyR y v) {t : Bool} (h : keyEq x y = some t) : Instr.sameNow d u v = some t := by
  unfold keyEq at h
  split at h <;> first | (cases h; done) | skip
  · split at h <;> cases h
    rename_i hk
    subst hk
    cases u <;> simp only [KeyR] at hx <;> first | (exact hx.elim; done) | skip
    cases v <;> simp only [KeyR] at hy <;> first | (exact hy.elim; done) | skip
    obtain ⟨rfl, rfl⟩ := hx
    obtain ⟨rfl, rfl⟩ := hy
    rcases hd with ⟨⟨_, e⟩, _⟩ | ⟨_, q, rfl⟩ | ⟨⟨_, e⟩, _⟩ <;> first | (cases e; done) | skip
    simp [Instr.sameNow]
  · cases h
    cases u <;> simp only [KeyR] at hx <;> first | (exact hx.elim; done) | skip
    cases v <;> simp only [KeyR] at hy <;> first | (exact hy.elim; done) | skip
    subst hx hy
    rcases hd with ⟨⟨_, e⟩, _⟩ | ⟨⟨_, _, e⟩, _⟩ | ⟨_, rfl⟩ <;> first | (cases e; done) | skip
    simp only [Instr.sameNow, barr_eq]
  · cases h
    cases u <;> simp only [KeyR] at hx <;> first | (exact hx.elim; done) | skip
    cases v <;> simp only [KeyR] at hy <;> first | (exact hy.elim; done) | skip
    subst hx hy
    rcases hd with ⟨_, rfl⟩ | ⟨⟨_, _, e⟩, _⟩ | ⟨⟨_, e⟩, _⟩ <;> first | (cases e; done) | skip
    simp only [Instr.sameNow]
theorem keyEq_true {x y : V} {v : Value} (h : keyEq x y = some true) (hx : KeyR x v) : KeyR y v := by
  unfold keyEq at h
  split at h <;> first | (cases h; done) | skip
  · split at h <;> first | (cases h; done) | skip
    rename_i hk
    have e := Option.some.inj h
    subst hk
    rw [eq_of_beq e] at hx; exact hx
  · have e := Option.some.inj h
    rw [eq_of_beq e] at hx; exact hx
  · have e := Option.some.inj h
    rw [eq_of_beq e] at hx; exact hx
theorem keyEq_same {x y : V} {u v : Value} (h : keyEq x y = some true) (hx : KeyR x u) (hy : KeyR y v) : u = v := by
  have h1 := keyEq_true h hx
  cases y <;> cases u <;> simp only [KeyR] at h1 <;> first | (exact h1.elim; done) | skip
  all_goals (cases v <;> simp only [KeyR] at hy <;> first | (exact hy.elim; done) | skip)
  · exact congrArg _ (h1.symm.trans hy)
  · rw [← h1.1, ← h1.2, ← hy.1, ← hy.2]
  · rename_i s a b
    have : a = b := by cases a; cases b; congr 1; exact Array.ext' (h1.trans hy.symm)
    rw [this]
theorem checkKey_run {t : TypeId} {d : TypeDesc} (hu : P.underlying t = some d) {x : V} {v : Value} (hd : OfKind d x) (em : Bool) : (Instr.checkKey em 10000 t v).run P w = .ok () w := by
  unfold Instr.checkKey
  simp only [Sem.run_bind, run_underlying hu, Result.andThen]
  rcases hd with ⟨_, rfl⟩ | ⟨_, q, rfl⟩ | ⟨_, rfl⟩ <;> rfl
theorem stays_run {x : V} {v : Value} (hx : KeyR x v) : (Instr.keyThatStays v v).run P w = .ok v w := by
  have : Instr.sameBits 10000 v v = true := by
    cases x <;> cases v <;> simp only [KeyR] at hx <;> first | (exact hx.elim; done) | (simp [Instr.sameBits]; done) | (simp only [Instr.sameBits]; exact (MapKept.bytes_beq _ _).2 rfl)
  simp [Instr.keyThatStays, this]

/-! ### Entries -/
theorem find_rel {d : TypeDesc} {k : V} {u : Value} (hd : OfKind d k) (hk : KeyR k u) : ∀ (es : List (V × D)) (as : List MapEntry) (i : Nat) (r : Option D), es.length = as.length → (∀ j (h : j < es.length) (h' : j < as.length), KeyR es[j].1 as[j].key) → mfind k es = some r →
    (r = none ∧ Instr.findNow d u as i = some none) ∨ ∃ j, ∃ (h : j < es.length) (h' : j < as.length), r = some es[j].2 ∧ Instr.findNow d u as i = some (some (i + j, as[j].val)) ∧ as[j].key = u
  | [], [], i, r, _, _, h => by
    simp only [mfind] at h; cases h
    exact .inl ⟨rfl, rfl⟩
  | [], b :: as, i, r, hl, _, _ => by simp at hl
  | e :: es, [], i, r, hl, _, _ => by simp at hl
  | e :: es, b :: as, i, r, hl, hr, h => by
    simp only [mfind] at h
    obtain ⟨t, h1, h2⟩ := bind_some' h
    have h3 := keyEq_rel hd hk (hr 0 (by simp) (by simp)) h1
    simp only [List.getElem_cons_zero] at h3
    cases t with
    | true =>
      simp only [if_true] at h2; cases h2
      exact .inr ⟨0, by simp, by simp, rfl, by simp [Instr.findNow, h3], (keyEq_same h1 hk (hr 0 (by simp) (by simp))).symm⟩
    | false =>
      simp only [Bool.false_eq_true, if_false] at h2
      rcases find_rel hd hk es as (i + 1) r (by simpa using hl) (fun j h h' => by have := hr (j + 1) (by simpa using h) (by simpa using h'); simpa using this) h2 with ⟨rfl, h4⟩ | ⟨j, h5, h6, rfl, h7, h8⟩
      · exact .inl ⟨rfl, by simp only [Instr.findNow, h3]; exact h4⟩
      · exact .inr ⟨j + 1, by simpa using h5, by simpa using h6, by simp, by simp only [Instr.findNow, h3, h7, List.getElem_cons_succ]; congr 3; omega, by simpa using h8⟩
theorem put_rel' {d : TypeDesc} {k : V} {u : Value} {x : D} (hd : OfKind d k) (hk : KeyR k u) : ∀ (es : List (V × D)) (as : List MapEntry) (i : Nat) (es' : List (V × D)), es.length = as.length → (∀ j (h : j < es.length) (h' : j < as.length), KeyR es[j].1 as[j].key) → mput k x es = some es' →
    (es' = es ++ [(k, x)] ∧ Instr.findNow d u as i = some none) ∨ ∃ j, ∃ (h : j < es.length) (h' : j < as.length), es' = es.set j (es[j].1, x) ∧ Instr.findNow d u as i = some (some (i + j, as[j].val)) ∧ as[j].key = u
  | [], [], i, es', _, _, h => by
    simp only [mput] at h; cases h
    exact .inl ⟨rfl, rfl⟩
  | [], b :: as, i, es', hl, _, _ => by simp at hl
  | e :: es, [], i, es', hl, _, _ => by simp at hl
  | e :: es, b :: as, i, es', hl, hr, h => by
    simp only [mput] at h
    obtain ⟨t, h1, h2⟩ := bind_some' h
    have h3 := keyEq_rel hd hk (hr 0 (by simp) (by simp)) h1
    simp only [List.getElem_cons_zero] at h3
    cases t with
    | true =>
      simp only [if_true] at h2; cases h2
      exact .inr ⟨0, by simp, by simp, by simp, by simp [Instr.findNow, h3], (keyEq_same h1 hk (hr 0 (by simp) (by simp))).symm⟩
    | false =>
      simp only [Bool.false_eq_true, if_false] at h2
      obtain ⟨es2, h4, rfl⟩ := map_some' h2
      rcases put_rel' hd hk es as (i + 1) es2 (by simpa using hl) (fun j h h' => by have := hr (j + 1) (by simpa using h) (by simpa using h'); simpa using this) h4 with ⟨rfl, h5⟩ | ⟨j, h5, h6, rfl, h7, h8⟩
      · exact .inl ⟨rfl, by simp only [Instr.findNow, h3]; exact h5⟩
      · exact .inr ⟨j + 1, by simpa using h5, by simpa using h6, by simp, by simp only [Instr.findNow, h3, h7, List.getElem_cons_succ]; congr 3; omega, by simpa using h8⟩
theorem mapV_cell {n : Nat} {d : D} (h : mapV n d = true) : d.isCell = true ∧ cp1 d = d := by
  unfold mapV at h
  split at h <;> first | (cases h; done) | skip
  rename_i h1 h2 h3 h4 h5
  cases d <;> first | exact ⟨rfl, rfl⟩ | skip
  · rename_i x
    cases x <;> first | exact ⟨rfl, rfl⟩ | exact absurd rfl (h1 _)
  · exact absurd rfl (h5 _ _)
  · exact absurd rfl (h2 _)
  · exact absurd rfl (h3 _)
  · exact absurd rfl h4
theorem mapOf_rel (hS : RelS w g st) {pl : Nat → Pl} {d : D} {v : Value} (hd : RelD w g pl d v) {es : List (V × D)} (h : mapOf st d = some es) :
    (v = .map none ∧ es = []) ∨ ∃ r arr clock, d = .map r ∧ v = .map (some (g.be r)) ∧ getB st r = some (.mp es) ∧ w.heap[g.be r]? = some (.map arr clock) ∧ arr.size = es.length ∧
      (∀ i (h : i < es.length) (h' : i < arr.size), KeyR es[i].1 arr[i].key ∧ mapV (r.lvl + 1) es[i].2 = true ∧ RelD w g (fun _ => .cell r i 0) es[i].2 arr[i].val) := by
  unfold mapOf at h
  split at h <;> first | (cases h; done) | skip
  · rename_i r
    unfold mpOf at h
    split at h <;> cases h
    rename_i hb
    cases hd
    obtain ⟨arr, clock, h1, h2, h3⟩ := hS.blk r _ hb
    exact .inr ⟨r, arr, clock, rfl, rfl, hb, h1, h2, h3⟩
  · cases h
    cases hd with | v _ _ _ hd =>
    cases hd
    exact .inl ⟨rfl, rfl⟩
theorem chkC_relD {zv : Value} {z : D} (h : chkC zv z = true) (pl : Nat → Pl) : RelD w g pl z zv := by
  have hz : chkZ [zv] [z] = true := by simp [chkZ, h]
  unfold chkC at h
  split at h <;> first | (cases h; done) | skip
  all_goals first
    | (simp only [Bool.and_eq_true, decide_eq_true_eq] at h; obtain ⟨rfl, rfl⟩ := h; exact .v _ _ _ (.int _ _))
    | exact .nils _ _
    | exact .v _ _ _ .nilp
    | exact .v _ _ _ .nili
    | exact .v _ _ _ .nilf
    | exact .v _ _ _ .nilm
    | (rw [← eq_of_beq h]; first | exact .v _ _ _ (.bool _) | exact .v _ _ _ (.str _))
theorem look_ok (h : RelA w g μ τ env ts st a.tmps) {t kt et : TypeId} {x k : Operand} {x' k' : Opd} {kd : Nat} {ok : Bool} {z : D} {zv : Value} (hop : o.op = .lookup t x k ok) (hu : P.underlying t = some (.map kt et))
    (hk : clsT P kt = some kd) (hz : zeroT P et = some zv) (hzc : chkC zv z = true) (h1 : chkO μ τ x x' = true) (h2 : chkO μ τ k k' = true) (he : evOp R env ts st (.look kd ok z x' k') = some q) : OpRes P o a w (Post w g μ τ a.tmps q) := by
  simp only [evOp] at he
  obtain ⟨kv, h3, h4⟩ := bind_some' he
  obtain ⟨es, h5, h6⟩ := bind_some' h4
  obtain ⟨r, h7, rfl⟩ := map_some' h6
  obtain ⟨k1, y, _, rfl, k2⟩ := keyOf_rel (rd_rel h h2 (fun _ => .nil)) h3
  obtain ⟨d, hd1, hd2⟩ := ofKind hk k2
  have hz0 := zeroV_run (w := w) hz
  have fin : ∀ (d : D) (v : Value), (∀ pl, RelD w g pl d v) → RelD w g (.tmp τ.length) (if ok = true then .tup [d, .v (.bool true)] else d) (if ok then .tuple #[v, .bool true] else v) ∧ RelD w g (.tmp τ.length) (if ok = true then .tup [d, .v (.bool false)] else d) (if ok then .tuple #[v, .bool false] else v) := fun d v hv => by
    cases ok with
    | false => exact ⟨hv _, hv _⟩
    | true => exact ⟨.tup _ _ _ rfl (fun i hi => by match i, hi with | 0, _ => exact hv _ | 1, _ => exact .v _ _ _ (.bool _)), .tup _ _ _ rfl (fun i hi => by match i, hi with | 0, _ => exact hv _ | 1, _ => exact .v _ _ _ (.bool _))⟩
  rcases mapOf_rel h.s (rd_rel h h1 (fun _ => .nil)) h5 with ⟨hv, rfl⟩ | ⟨rr, arr, clock, hdm, hv, hb, m1, m2, m3⟩
  · simp only [mfind] at h7; cases h7
    refine res_val h (v := if ok then .tuple #[zv, .bool false] else zv) ?_ (fin z zv (chkC_relD hzc)).2
    simp only [execOp, hop, hv]
    refine run_v ?_
    have hf : Instr.findNow d (a.eval k) [] 0 = some none := rfl
    simp [Instr.lookup, run_underlying hu, Result.andThen, checkKey_run (w := w) hd1 hd2, MapKept.run_findKey hd1 hf, hz0]
  · rcases find_rel hd2 k1 es arr.toList 0 r (by simpa using m2.symm) (fun j hj hj' => by have := (m3 j hj (by simpa using hj')).1; simpa using this) h7 with ⟨rfl, hf⟩ | ⟨j, hj, hj', rfl, hf, _⟩
    · refine res_val h (v := if ok then .tuple #[zv, .bool false] else zv) ?_ (fin z zv (chkC_relD hzc)).2
      simp only [execOp, hop, hv]
      refine run_v ?_
      simp [Instr.lookup, run_underlying hu, Result.andThen, MapKept.run_getObj_map m1, checkKey_run (w := w) hd1 hd2, MapKept.run_findKey hd1 hf, hz0]
    · obtain ⟨_, n2, n3⟩ := m3 j hj (by simpa using hj')
      obtain ⟨c1, c2⟩ := mapV_cell n2
      have hvv : ∀ pl, RelD w g pl es[j].2 (arr[j]'(by simpa using hj')).val := fun pl => by have := (n3.cp1 c1 (pl' := pl)).1; rw [c2] at this; exact this
      refine res_val h (v := if ok then .tuple #[(arr[j]'(by simpa using hj')).val, .bool true] else (arr[j]'(by simpa using hj')).val) ?_ (fin _ _ hvv).1
      simp only [execOp, hop, hv]
      refine run_v ?_
      simp [Instr.lookup, run_underlying hu, Result.andThen, MapKept.run_getObj_map m1, checkKey_run (w := w) hd1 hd2, MapKept.run_findKey hd1 hf]
theorem lenm_run {t kt et ty : TypeId} (hu : P.underlying t = some (.map kt et)) (hS : RelS w g st) {pl : Nat → Pl} {d : D} {v : Value} (hd : RelD w g pl d v) {es : List (V × D)} (h : mapOf st d = some es) :
    (Builtin.len_ #[t] ty #[v]).run P w = .ok (.int .i64 es.length) w := by
  rcases mapOf_rel hS hd h with ⟨rfl, rfl⟩ | ⟨r, arr, clock, rfl, rfl, hb, m1, m2, m3⟩
  · simp [Builtin.len_, run_underlying hu, Result.andThen, goInt]
  · simp [Builtin.len_, run_underlying hu, Result.andThen, goInt, MapKept.run_getObj_map m1, m2]

/-! ### Writing -/
/-- a map's block is written -/
theorem set_mp {r : Ref} {es es' : List (V × D)} {arr arr' : Array MapEntry} {clock clock' : Nat} (hS : RelS w g st) (hb : getB st r = some (.mp es)) (hw : w.heap[g.be r]? = some (.map arr clock)) (hl : arr'.size = es'.length)
    (hr : ∀ i (h : i < es'.length) (h' : i < arr'.size), KeyR es'[i].1 arr'[i].key ∧ mapV (r.lvl + 1) es'[i].2 = true ∧ RelD w g (fun _ => .cell r i 0) es'[i].2 arr'[i].val) :
    Ext w { w with heap := w.heap.setIfInBounds (g.be r) (.map arr' clock') } g g ∧ RelS { w with heap := w.heap.setIfInBounds (g.be r) (.map arr' clock') } g (setB st r (.mp es')) ∧
      ∀ {pl : Nat → Pl} {d : D} {v : Value}, RelD w g pl d v → RelD { w with heap := w.heap.setIfInBounds (g.be r) (.map arr' clock') } g pl d v := by
  have hlv : g.live r := (hS.live r).2 ⟨_, hb⟩
  obtain ⟨hM, hL, ho, hsz⟩ := hS.be r hlv
  generalize hw' : ({ w with heap := w.heap.setIfInBounds (g.be r) (.map arr' clock') } : World) = w'
  have hheap : w'.heap = w.heap.setIfInBounds (g.be r) (.map arr' clock') := by rw [← hw']
  have hsame : w'.heap[g.be r]? = some (.map arr' clock') := by rw [hheap]; exact (MapKept.heap_set hw).1
  have hoth : ∀ b, b ≠ g.be r → w'.heap[b]? = w.heap[b]? := fun b hne => by rw [hheap]; exact (MapKept.heap_set hw).2 b hne
  have hhs : w'.heap.size = w.heap.size := by rw [hheap]; simp
  have cells : ∀ b o, b ≠ g.be r → w'.cell? ⟨b, o, none⟩ = w.cell? ⟨b, o, none⟩ ∧ w'.frozen? ⟨b, o, none⟩ = w.frozen? ⟨b, o, none⟩ := fun b o hne => cell_heap (hoth b hne) o
  have keeps : Keeps w w' g g := ⟨fun b o hh => (cells b o (fun e => by rw [e, hL] at hh; omega)).1, fun _ => Nat.le_refl _⟩
  have ownne : ∀ b p, g.own b = some p → b ≠ g.be r := fun b p hp e => by rw [e, ho] at hp; cases hp
  have mono : ∀ {pl : Nat → Pl} {d : D} {v : Value}, RelD w g pl d v → RelD w' g pl d v := fun hd =>
    hd.mono keeps hS.nil (fun b k hk => ⟨hk, rfl, fun o => by rw [(cells b o (ownne b _ hk)).1, (cells b o (ownne b _ hk)).2]; exact ⟨id, id⟩⟩) (fun r hr => ⟨hr, rfl, rfl, rfl⟩)
  have hget := getB_setB (.mp es') hb
  refine ⟨⟨by rw [← hw'], by rw [← hw'], by rw [← hw'], by omega, keeps.cell, keeps.L, fun b hbn hm => ⟨hoth b (fun e => hm (e ▸ hM)), rfl, hm⟩, fun r hr => ⟨hr, rfl, rfl, rfl⟩⟩, ⟨fun r' => ?_, fun r' bl hbl => ?_, fun r' hr' => ?_, hS.inj, fun b p hp => ?_, hS.nil, fun b hbn => ?_, gl_keep keeps.cell keeps.L (by omega) (fun b hbn hm => ⟨hm, hoth b (fun e => hm (e ▸ hM))⟩) hS.gl⟩, mono⟩
  · rw [hget]
    by_cases e : r' = r
    · subst e; rw [if_pos rfl]; exact ⟨fun _ => ⟨_, rfl⟩, fun _ => hlv⟩
    · rw [if_neg e]; exact hS.live r'
  · rw [hget] at hbl
    by_cases e : r' = r
    · subst e
      rw [if_pos rfl] at hbl
      cases hbl
      refine ⟨arr', clock', hsame, hl, fun i h h' => ?_⟩
      obtain ⟨h1, h2, h3⟩ := hr i h h'
      exact ⟨h1, h2, mono h3⟩
    · rw [if_neg e] at hbl
      have hlv' : g.live r' := (hS.live r').2 ⟨_, hbl⟩
      have hne : g.be r' ≠ g.be r := fun e' => e (hS.inj _ _ hlv' hlv e')
      have hB := hS.blk r' _ hbl
      cases bl with
      | mp es2 =>
        obtain ⟨arr2, clock2, h8, h9, h10⟩ := hB
        refine ⟨arr2, clock2, by rw [hoth _ hne]; exact h8, h9, fun i hi hi' => ?_⟩
        obtain ⟨h11, h12, h13⟩ := h10 i hi hi'
        exact ⟨h11, h12, mono h13⟩
      | row zs =>
        simp only [RelB] at hB ⊢
        refine ⟨hB.1, fun i hi => ?_⟩
        obtain ⟨h2, h3⟩ := hB.2 i hi
        refine ⟨h2, fun j hj => ?_⟩
        obtain ⟨h4, h5, v, h6, h7, h8⟩ := h3 j hj
        exact ⟨h4, h5, v, by rw [(cells _ _ hne).1]; exact h6, by rw [(cells _ _ hne).2]; exact h7, mono h8⟩
  · obtain ⟨h1, h2, h3, h4⟩ := hS.be r' hr'
    exact ⟨h1, h2, h3, by rw [hhs]; exact h4⟩
  · obtain ⟨h1, h2⟩ := hS.own b p hp
    exact ⟨h1, by rw [hhs]; exact h2⟩
  · rw [hhs] at hbn
    exact hS.fresh b hbn
theorem mupd_ok (h : RelA w g μ τ env ts st a.tmps) {t kt et : TypeId} {x k v : Operand} {x' k' v' : Opd} {kd : Nat} (hop : o.op = .mapUpdate t x k v) (hu : P.underlying t = some (.map kt et))
    (hk : clsT P kt = some kd) (h1 : chkO μ τ x x' = true) (h2 : chkO μ τ k k' = true) (h3 : chkO μ τ v v' = true) (he : evOp R env ts st (.mupd kd x' k' v') = some q) : OpRes P o a w (Post w g μ τ a.tmps q) := by
  simp only [evOp] at he
  obtain ⟨kv, h4, h5⟩ := bind_some' he
  obtain ⟨st', h6, rfl⟩ := map_some' h5
  obtain ⟨k1, _, _, rfl, k2⟩ := keyOf_rel (rd_rel h h2 (fun _ => .nil)) h4
  obtain ⟨d, hd1, hd2⟩ := ofKind hk k2
  unfold mupdD at h6
  split at h6 <;> first | (cases h6; done) | skip
  rename_i r hx
  split at h6 <;> first | (cases h6; done) | skip
  rename_i hmv
  obtain ⟨es, h7, h8⟩ := bind_some' h6
  obtain ⟨es', h9, rfl⟩ := map_some' h8
  have hxm := rd_rel h h1 (fun _ => .nil)
  rw [hx] at hxm
  generalize hv : a.eval x = vx at hxm
  cases hxm
  unfold mpOf at h7
  split at h7 <;> cases h7
  rename_i hb
  obtain ⟨arr, clock, m1, m2, m3⟩ := h.s.blk r _ hb
  have hval : ∀ pl, RelD w g pl (rd env ts v') (a.eval v) := fun pl => rd_rel h h3 pl
  rcases put_rel' hd2 k1 es arr.toList 0 es' (by simpa using m2.symm) (fun j hj hj' => by have := (m3 j hj (by simpa using hj')).1; simpa using this) h9 with ⟨rfl, hf⟩ | ⟨j, hj, hj', rfl, hf, hkey⟩
  · obtain ⟨e1, e2, e3⟩ := set_mp (arr' := arr.push ⟨a.eval k, a.eval v, clock⟩) (clock' := clock + 1) (es' := es ++ [(kv, rd env ts v')]) h.s hb m1 (by simp [m2]) (fun i hi hi' => by
      by_cases hlt : i < es.length
      · obtain ⟨n1, n2, n3⟩ := m3 i hlt (by omega)
        rw [List.getElem_append_left hlt, Array.getElem_push_lt (by omega)]
        exact ⟨n1, n2, n3⟩
      · have hi2 : i = es.length := by simp at hi; omega
        subst hi2
        have e1 : (es ++ [(kv, rd env ts v')])[es.length]'hi = (kv, rd env ts v') := by simp
        have e2 : (arr.push ⟨a.eval k, a.eval v, clock⟩)[es.length]'hi' = ⟨a.eval k, a.eval v, clock⟩ := by
          rw [Array.getElem_push]; rw [dif_neg (by omega)]
        rw [e1, e2]
        exact ⟨k1, hmv, hval _⟩)
    refine res_skip ?_ ⟨g, e1, ⟨e2, fun i t hi => e3 (h.e i t hi), fun j t hj => e3 (h.t j t hj)⟩, .undef _ _⟩
    simp only [execOp, hop, hv]
    refine run_u ?_
    simp [Instr.mapUpdate, run_underlying hu, MapKept.run_getObj_map m1, checkKey_run (w := w) hd1 hd2, MapKept.run_findKey hd1 hf, MapKept.run_setObj_map _ m1, Result.andThen]
  · obtain ⟨e1, e2, e3⟩ := set_mp (arr' := arr.modify j (fun e' => { e' with key := a.eval k, val := a.eval v })) (clock' := clock) (es' := es.set j (es[j].1, rd env ts v')) h.s hb m1 (by simp [m2]) (fun i hi hi' => by
      have hil : i < es.length := by simpa using hi
      obtain ⟨n1, n2, n3⟩ := m3 i hil (by omega)
      by_cases hij : j = i
      · subst hij
        rw [List.getElem_set_self, Array.getElem_modify, if_pos rfl]
        have := m3 j hj (by omega)
        refine ⟨?_, hmv, hval _⟩
        have hk2 : (arr[j]'(by omega)).key = a.eval k := by simpa using hkey
        have h9 := this.1
        exact Eq.mp (congrArg (KeyR es[j].1) hk2) h9
      · rw [List.getElem_set_ne hij, Array.getElem_modify, if_neg hij]
        exact ⟨n1, n2, n3⟩)
    refine res_skip ?_ ⟨g, e1, ⟨e2, fun i t hi => e3 (h.e i t hi), fun j t hj => e3 (h.t j t hj)⟩, .undef _ _⟩
    simp only [execOp, hop, hv]
    refine run_u ?_
    have hjl : j < arr.size := by simpa using hj'
    have hkk : arr[j].key = a.eval k := by simpa using hkey
    simp [Instr.mapUpdate, run_underlying hu, MapKept.run_getObj_map m1, checkKey_run (w := w) hd1 hd2, MapKept.run_findKey hd1 hf, hjl, hkk, stays_run k1, MapKept.run_setObj_map _ m1, Result.andThen]
end
end Go.Q
