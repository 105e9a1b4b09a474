/- Plain: robust part, region before, region kept for a round. No program. -/
import Derived.Test.YtabmfaamadbefaaGreatGp
import Derived.Test.YtabmfaamadbefaaGreatQz
import Derived.Test.YtabmfaamadbefaaGreatHsp
import Derived.Test.YtabmfaamadbefaaGreatFi
set_option linter.unusedVariables false
set_option linter.unusedSimpArgs false
set_option linter.unusedSectionVars false
namespace Go.Proofs.YtabmfaamadbefaaGreat
open Go.RowKit
def pullM (r : RoomV) (p : List H3) : List H3 × Bool := movedF (pullF (r.m.getD 0 0) (r.m.getD 1 0) (r.m.getD 2 0) (r.m.getD 3 0) r.q) p
def growP (r : RoomV) (e : List H3) : List H3 × Bool := if e.length ≤ 38 then growM e r.bx r.by_ r.lo r.hi else ([], false)
def thenL (x : List H3 × Bool) (F : List H3 → List H3 × Bool) : List H3 × Bool := if x.2 = true then F x.1 else ([], false)
def preM (r : RoomV) (p : List H3) : List H3 × Bool := thenL (thenL (movedF (erF r.ns) p) (growP r)) (pullM r)
def preR (r : RoomV) (p : List H3) : List H3 × Bool := if roomOk r = true ∧ regionOk p = true then preM r p else ([], false)
def keepM (r : RoomV) (p : List H3) : List H3 × Bool := thenL (preM r p) (meetQ p)
def keepR (r : RoomV) (p : List H3) : List H3 × Bool := if roomOk r = true ∧ regionOk p = true then keepM r p else ([], false)
theorem thenL_false {x : List H3 × Bool} {F : List H3 → List H3 × Bool} (h : x.2 = false) : thenL x F = ([], false) := by unfold thenL; rw [if_neg (by rw [h]; simp)]
theorem thenL_true {x : List H3 × Bool} {F : List H3 → List H3 × Bool} (h : x.2 = true) : thenL x F = F x.1 := by unfold thenL; rw [if_pos h]
theorem growP_ok {r : RoomV} {e out : List H3} (he : regionOk e = true) (h : growP r e = (out, true)) : regionOk out = true := by
  unfold growP at h
  split at h
  · exact growM_ok he h
  · simp at h
theorem pullM_ok {r : RoomV} {e out : List H3} (h : pullM r e = (out, true)) : regionOk out = true := movedF_ok (fun g _ hg => by unfold pullF at hg ⊢; exact halfOf_ok (v := _) rfl hg) h
theorem preM_ok {r : RoomV} {p out : List H3} (h : preM r p = (out, true)) : regionOk out = true := by
  unfold preM at h
  by_cases hx : (thenL (movedF (erF r.ns) p) (growP r)).2 = true
  · rw [thenL_true hx] at h
    exact pullM_ok h
  · rw [thenL_false (by simpa using hx)] at h
    simp at h
theorem growBd_of {r : RoomV} (P : RoomP r) : GrowBd r.bx r.by_ r.lo r.hi := ⟨P.bx, P.by_, P.lo, by have := P.lo; have := P.hi; omega⟩

end Go.Proofs.YtabmfaamadbefaaGreat