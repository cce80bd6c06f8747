/- The whole: what the abstract machine tells of a program's functions holds. No condition. -/
import Derived.Test.YtmbdamompcdolaaDoorEv4
import Derived.Below
set_option linter.unusedVariables false
set_option linter.unusedSimpArgs false
set_option linter.unusedSectionVars false
namespace Go.Q
variable [Known] [Iters]

theorem runF_len {R : Run} (hL : RLen R) {n : Nat} {F : SFunc} {args : List D} {st : St} {r : D × St} (h : runF R n F args st = some r) : r.2.length = st.length := by
  unfold runF at h
  split at h <;> first | (cases h; done) | skip
  obtain ⟨⟨x, env', st'⟩, h1, h2⟩ := bind_some' h
  have hlen : st'.length = st.length + 1 := by simpa using (exec_len hL F.code (by simp) h1).2
  have fin : endD F.keep F.res st env' st' = some r → r.2.length = st.length := fun hend => by
    obtain ⟨ds, _, k2⟩ := bind_some' hend
    obtain ⟨ds', _, k4⟩ := bind_some' k2
    unfold oneD at k4
    split at k4 <;> cases k4 <;> simp [hlen]
  cases x with
  | normal => exact fin h2
  | ret => exact fin h2
  | exit i => cases h2

/-- what a word of its own tells of a function -/
def PrimOk (P : Program) (f : Nat) (F : List D → St → Option (D × St)) : Prop := ∀ args st r, F args st = some r → r.2.length = st.length ∧ FnOk P f ∧ ∀ (vals : Array Value) (w : World) (g : Gh) (hl : args.length = vals.size),
  (∀ i (h : i < args.length), RelD w g (fun _ => .nil) args[i] (vals[i]'(hl ▸ h))) → RelS w g st → (∀ b p, g.own b = some p → p.isCell = true) →
  Calls P f vals w fun e w' => ∃ v g', e = .returned v ∧ Back w g w' g' r.1 r.2 v

theorem runN_sound {P : Program} {G : Prg} (hfn : ∀ f F, G.prim f = none → G.fn f = some F → ∃ μ, chkFn P f F μ = true) (hprim : ∀ f F, G.prim f = some F → PrimOk P f F) (hit : ∀ p ∈ Iters.it, IterOk P p.1 p.2) :
    ∀ n, ROk P (runN G n) ∧ RLen (runN G n)
  | 0 => ⟨fun f args st r h => (by cases h), fun f args st r h => (by cases h)⟩
  | n + 1 => by
    obtain ⟨h1, h2⟩ := runN_sound hfn hprim hit n
    refine ⟨fun f args st r h => ?_, fun f args st r h => ?_⟩
    · simp only [runN] at h
      cases hp : G.prim f with
      | some F =>
        rw [hp] at h
        exact (hprim f F hp args st r h).2
      | none =>
        rw [hp] at h
        cases hf : G.fn f with
        | none => rw [hf] at h; cases h
        | some F =>
          rw [hf] at h
          obtain ⟨μ, hc⟩ := hfn f F hp hf
          exact fn_sound h1 h2 hit hc h
    · simp only [runN] at h
      cases hp : G.prim f with
      | some F =>
        rw [hp] at h
        exact (hprim f F hp args st r h).1
      | none =>
        rw [hp] at h
        cases hf : G.fn f with
        | none => rw [hf] at h; cases h
        | some F => rw [hf] at h; exact runF_len h2 h

/-- A law: with pure data, it answers true. -/
theorem calls_true {P : Program} {G : Prg} (hfn : ∀ f F, G.prim f = none → G.fn f = some F → ∃ μ, chkFn P f F μ = true) (hprim : ∀ f F, G.prim f = some F → PrimOk P f F) (hit : ∀ p ∈ Iters.it, IterOk P p.1 p.2)
    {f : Nat} {xs : List V} {b : Bool} (h : run G f (xs.map .v) [] = some (.v (.bool b), [])) {vals : Array Value} {w : World} {L : Nat → Nat} (hl : xs.length = vals.size)
    (hx : ∀ i (h : i < xs.length), RelV w L xs[i] (vals[i]'(hl ▸ h))) (hL : ∀ c, w.heap.size ≤ c → L c = 0) (hgl : ∀ p ∈ Known.gl, p.2.1 < L p.1 ∧ w.cell? ⟨p.1, p.2.1, none⟩ = some p.2.2) (hbl : ∀ p ∈ Known.bl, w.heap[p.1]? = some p.2) :
    Calls P f vals w fun e w' => e = .returned (.bool b) ∧ w'.os = w.os ∧ w'.tape = w.tape ∧ w'.output = w.output ∧ w.heap.size ≤ w'.heap.size ∧ ∀ c, c < w.heap.size → w'.heap[c]? = w.heap[c]? := by
  obtain ⟨n, hn⟩ := of_run h
  let g : Gh := { L := L, M := fun _ => False, own := fun _ => none, be := fun _ => 0, sz := fun _ => 0, n := fun _ => 0, live := fun _ => False }
  have lS : RelS w g [] := ⟨fun r => ⟨fun hh => hh.elim, fun ⟨b, hb⟩ => by simp [getB] at hb⟩, fun r b hb => by simp [getB] at hb, fun r hr => hr.elim, fun r r' hr => hr.elim, fun b p hb => (by cases hb), fun b hb => (by cases hb), fun b hb => ⟨hL b hb, fun hh => hh⟩, ⟨hgl, fun p hp => ⟨fun hh => hh, (Array.getElem?_eq_some_iff.1 (hbl p hp)).1, hbl p hp⟩⟩⟩
  refine Calls.mono (((runN_sound hfn hprim hit n).1 f _ _ _ hn).2 vals w g (by simpa using hl) (fun i hi => ?_) lS (fun b p hb => by cases hb)) fun e w' he => ?_
  · simp only [List.getElem_map]
    exact .v _ _ _ (hx i (by simpa using hi))
  · obtain ⟨v, g', rfl, B⟩ := he
    exact ⟨by rw [boolOf B.r], B.ext.os, B.ext.tape, B.ext.output, B.ext.size, fun c hc => (B.ext.old c hc (fun hm => hm)).1⟩
/-- .. with an empty frame below its own. -/
theorem calls_true1 {P : Program} {G : Prg} (hfn : ∀ f F, G.prim f = none → G.fn f = some F → ∃ μ, chkFn P f F μ = true) (hprim : ∀ f F, G.prim f = some F → PrimOk P f F) (hit : ∀ p ∈ Iters.it, IterOk P p.1 p.2)
    {f : Nat} {xs : List V} {b : Bool} {st' : St} (h : run G f (xs.map .v) [[]] = some (.v (.bool b), st')) {vals : Array Value} {w : World} {L : Nat → Nat} (hl : xs.length = vals.size)
    (hx : ∀ i (h : i < xs.length), RelV w L xs[i] (vals[i]'(hl ▸ h))) (hL : ∀ c, w.heap.size ≤ c → L c = 0) (hgl : ∀ p ∈ Known.gl, p.2.1 < L p.1 ∧ w.cell? ⟨p.1, p.2.1, none⟩ = some p.2.2) (hbl : ∀ p ∈ Known.bl, w.heap[p.1]? = some p.2) :
    Calls P f vals w fun e w' => e = .returned (.bool b) ∧ w'.os = w.os ∧ w'.tape = w.tape ∧ w'.output = w.output ∧ w.heap.size ≤ w'.heap.size ∧ ∀ c, c < w.heap.size → w'.heap[c]? = w.heap[c]? := by
  obtain ⟨n, hn⟩ := of_run h
  let g : Gh := { L := L, M := fun _ => False, own := fun _ => none, be := fun _ => 0, sz := fun _ => 0, n := fun _ => 0, live := fun _ => False }
  have lS : RelS w g [[]] := ⟨fun r => ⟨fun hh => hh.elim, fun ⟨b, hb⟩ => by simp [getB] at hb⟩, fun r b hb => by simp [getB] at hb, fun r hr => hr.elim, fun r r' hr => hr.elim, fun b p hb => (by cases hb), fun b hb => (by cases hb), fun b hb => ⟨hL b hb, fun hh => hh⟩, ⟨hgl, fun p hp => ⟨fun hh => hh, (Array.getElem?_eq_some_iff.1 (hbl p hp)).1, hbl p hp⟩⟩⟩
  refine Calls.mono (((runN_sound hfn hprim hit n).1 f _ _ _ hn).2 vals w g (by simpa using hl) (fun i hi => ?_) lS (fun b p hb => by cases hb)) fun e w' he => ?_
  · simp only [List.getElem_map]
    exact .v _ _ _ (hx i (by simpa using hi))
  · obtain ⟨v, g', rfl, B⟩ := he
    exact ⟨by rw [boolOf B.r], B.ext.os, B.ext.tape, B.ext.output, B.ext.size, fun c hc => (B.ext.old c hc (fun hm => hm)).1⟩
end Go.Q
