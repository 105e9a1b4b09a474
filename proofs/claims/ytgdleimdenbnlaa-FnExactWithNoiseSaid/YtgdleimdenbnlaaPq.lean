/- Contracts of PullBack, of the program and of the reference. Condition: the arguments are ints. -/
import Derived.Test.YtgdleimdenbnlaaPb
set_option linter.unusedSimpArgs false
set_option linter.unusedVariables false
set_option linter.unusedSectionVars false
namespace Go.Proofs.Ytgdleimdenbnlaa
open Go.RowKit

def pullR (m : List Int) (q : Int) (hs : List H3) : List H3 × Bool := if turnOk m q = true ∧ regionOk hs = true then movedF (pullF (m.getD 0 0) (m.getD 1 0) (m.getD 2 0) (m.getD 3 0) q) hs else ([], false)
theorem pullR_short {m : List Int} {q : Int} {hs out : List H3} {ok : Bool} (h : pullR m q hs = (out, ok)) : out.length ≤ 1000 := by
  unfold pullR at h
  split at h
  · have := movedF_short h; omega
  · simp at h; rw [h.1]; simp

theorem turnOk_parts {m : List Int} {q : Int} (hm : turnOk m q = true) : mapOk m q = true ∧ ∃ a b e f, m = [a, b, e, f] ∧ MatBd a b e f q ∧ (a * f - b * e == 0) = false := by
  unfold turnOk at hm
  rw [Bool.and_eq_true] at hm
  obtain ⟨a, b, e, f, rfl, M⟩ := mapOk_parts hm.1
  refine ⟨hm.1, a, b, e, f, rfl, M, ?_⟩
  have h2 : (a * f - b * e != 0) = true := hm.2
  simpa using h2

end Go.Proofs.Ytgdleimdenbnlaa
