/- Plain: robust part. No program. -/
import Derived.Test.YtgdleimdenbnlaaGreatEr
import Derived.Test.YtgdleimdenbnlaaGreatKn
set_option linter.unusedVariables false
set_option linter.unusedSimpArgs false
set_option linter.unusedSectionVars false
namespace Go.Proofs.YtgdleimdenbnlaaGreat
open Go.RowKit

def robustR (r : RoomV) (p : List H3) : List H3 × Bool := if roomOk r = true ∧ regionOk p = true then movedF (erF r.ns) p else ([], false)
theorem erosion_ok {r : RoomV} {p out : List H3} (h : movedF (erF r.ns) p = (out, true)) : regionOk out = true := movedF_ok (fun g _ hg => erF_ok hg) h
theorem erodeR_room {r : RoomV} (P : RoomP r) (p : List H3) : erodeR p r.ns = if regionOk p = true then movedF (erF r.ns) p else ([], false) := by
  unfold erodeR
  by_cases h : regionOk p = true
  · rw [if_pos ⟨P.ns, h, P.nk⟩, if_pos h]
  · rw [if_neg (fun e => h e.2.1), if_neg h]
theorem robustR_false {r : RoomV} {p : List H3} (h : roomOk r = false) : robustR r p = ([], false) := by unfold robustR; rw [if_neg (by rw [h]; simp)]
theorem robustR_true {r : RoomV} {p : List H3} (h : roomOk r = true) : robustR r p = erodeR p r.ns := by
  rw [erodeR_room (roomOk_parts h)]
  unfold robustR
  by_cases h2 : regionOk p = true
  · rw [if_pos ⟨h, h2⟩, if_pos h2]
  · rw [if_neg (fun e => h2 e.2), if_neg h2]
theorem robustR_reg {r : RoomV} {p e : List H3} (h : robustR r p = (e, true)) : regionOk e = true ∧ RoomP r := by
  unfold robustR at h
  split at h
  · rename_i hc
    exact ⟨erosion_ok h, roomOk_parts hc.1⟩
  · simp at h
theorem robustR_short {r : RoomV} {p out : List H3} {ok : Bool} (h : robustR r p = (out, ok)) : out.length ≤ 1000 := by
  by_cases hc : roomOk r = true
  · rw [robustR_true hc] at h; exact erodeR_short h
  · rw [robustR_false (by simpa using hc)] at h; simp at h; rw [h.1]; simp
end Go.Proofs.YtgdleimdenbnlaaGreat
