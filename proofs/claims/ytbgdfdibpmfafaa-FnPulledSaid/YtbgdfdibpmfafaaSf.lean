/- Contracts of ShiftRegion, of the program and of the reference. Condition: the steps are ints. -/
import Derived.Test.YtbgdfdibpmfafaaMv
set_option linter.unusedSimpArgs false
set_option linter.unusedVariables false
set_option linter.unusedSectionVars false
namespace Go.Proofs.Ytbgdfdibpmfafaa
open Go.RowKit

def movedF (F : H3 → H3 × Bool) (hs : List H3) : List H3 × Bool := if hs = [] then ([], true) else if hs.all (fun g => (F g).2) = true then meetR (hs.map fun g => (F g).1) else ([], false)
theorem movedF_short {F : H3 → H3 × Bool} {hs out : List H3} {ok : Bool} (h : movedF F hs = (out, ok)) : out.length ≤ 40 := by
  unfold movedF at h
  split at h
  · simp at h; rw [h.1]; simp
  · split at h
    · exact meetR_short h
    · simp at h; rw [h.1]; simp
theorem halfOf_ok {a b c : Int} {h : H3} {v : Bool} (e : halfOf a b c = (h, v)) (hv : v = true) : HOk h := by
  subst hv
  unfold halfOf at e
  split at e
  · simp at e
  · split at e
    · rename_i hk
      injection e with e _
      rw [← e]
      exact (halfOk_iff _).1 hk
    · simp at e
def shiftF (dx dy : Int) (g : H3) : H3 × Bool := halfOf g.a g.b (g.c + g.a * dx + g.b * dy)
structure StepBd (dx dy : Int) : Prop where
  bx : -2000 ≤ dx ∧ dx ≤ 2000
  bY : -2000 ≤ dy ∧ dy ≤ 2000
def shiftR (dx dy : Int) (hs : List H3) : List H3 × Bool := if regionOk hs = true ∧ inR dx (-2000) 2000 = true ∧ inR dy (-2000) 2000 = true then movedF (shiftF dx dy) hs else ([], false)
theorem shiftR_short {dx dy : Int} {hs out : List H3} {ok : Bool} (h : shiftR dx dy hs = (out, ok)) : out.length ≤ 1000 := by
  unfold shiftR at h
  split at h
  · have := movedF_short h; omega
  · simp at h; rw [h.1]; simp
theorem isStep_eq {n : Int} {v : Bool} {w : World} (h : inR n (-2000) 2000 = v) : Calls Try.prog 38 #[.int .i64 n] w fun e w' => e = .returned (.bool v) ∧ w = w' := by
  go_enter Try.func38, Try.ntmps38
  go_wp2_with ((go_at_call 53; refine (inRange_eq h).mono ?_; rintro e w' ⟨rfl, rfl⟩))
  go_ret
  exact ⟨rfl, rfl⟩

end Go.Proofs.Ytbgdfdibpmfafaa
