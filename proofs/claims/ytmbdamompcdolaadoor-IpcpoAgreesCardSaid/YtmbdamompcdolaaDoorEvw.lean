/- Frames of functions and of rounds of a range over a function: what an operation makes serves both. No condition. -/
import Derived.Test.YtmbdamompcdolaaDoorEvO
import Derived.OrdersIn
import Derived.RangeFuncIn
set_option linter.unusedVariables false
set_option linter.unusedSimpArgs false
set_option linter.unusedSectionVars false
namespace Go.Q
/-- no bound; ro: a round's frame -/
def wideR (ro : Option Nat) : Fence := { Fence.wide with round := ro }
theorem wideR_none : wideR none = Fence.wide := rfl
theorem wideR_in (ro : Option Nat) (l : Nat) : (wideR ro).inRound l = wideR (some l) := rfl
theorem callsR {ro : Option Nat} {n : Nat} {P : Program} {f : FuncId} {args : Array Value} {w : World} {R : Ending → World → Prop} (h : Calls P f args w R) : CallsIn (wideR ro) n P f args w R :=
  ⟨trivial, fun cs _ => let ⟨e, w', fr, r, s, x⟩ := h cs; ⟨e, w', fr, r, comesIn_wide.2 s, x⟩⟩
theorem calls_of_R {ro : Option Nat} {n : Nat} {P : Program} {f : FuncId} {args : Array Value} {w : World} {R : Ending → World → Prop} (h : CallsIn (wideR ro) n P f args w R) : Calls P f args w R :=
by
  have h' : CallsIn Fence.wide n P f args w R := ⟨trivial, fun cs _ => h.2 cs (fun d hd => by cases hd)⟩
  exact callsIn_wide.1 h'
theorem OpRes.wq {ro : Option Nat} {P : Program} {o : Oper} {a : Act} {w : World} {Po : Value → World → Prop} {K : Act → World → Prop} {Q : Exit → Act → World → Prop}
    (h : OpRes P o a w Po) (k : ∀ v w', Po v w' → K (a.put o.dst v) w') : o.wpIn (wideR ro) 0 P a w K Q := by
  have hd : ∀ c, o.op ≠ .defer c := fun c hc => by
    unfold OpRes at h
    have key : ∀ s : Sem Deferred, (match ((do pure (.defer (← s)) : Sem Next)).run P w with
        | .ok (.value v) w' => Po v w'
        | .ok .skip w' => Po undef w'
        | .ok (.enter f args) w' => Calls P f args w' fun e w'' => ∃ v, e = .returned v ∧ Po v w''
        | _ => False) → False := fun s hs => by
      rw [Sem.run_bind] at hs
      cases hr : s.run P w with
      | ok d w' => rw [hr] at hs; exact hs
      | halt x w' => rw [hr] at hs; exact hs
    simp only [execOp, hc] at h
    exact key _ h
  unfold Oper.wpIn
  refine ⟨fun _ _ => trivial, ?_⟩
  show o.uponIn (wideR ro) 0 P a K Q ((o.semAt ro a.eval).run P w)
  rw [Oper.semAt_eq ro _ o hd]
  unfold OpRes at h
  split at h <;> rename_i hr
  · rw [hr]; exact k _ _ h
  · rw [hr]; exact k _ _ h
  · rw [hr, Oper.uponIn_enter]
    refine ⟨fun hh => absurd hh (by simp [wideR, Fence.wide]), callsR (Calls.mono h fun e w'' he => ?_)⟩
    obtain ⟨v, rfl, hv⟩ := he
    exact k _ _ hv
  · exact h.elim
end Go.Q
