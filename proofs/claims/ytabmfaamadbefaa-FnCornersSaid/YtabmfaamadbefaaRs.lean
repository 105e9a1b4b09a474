/- Contracts of the reference's l05Fit, RegionFrom, SameRegion, IsVoid and RegionOk. No condition but that lengths are ints. -/
import Derived.Test.YtabmfaamadbefaaMk
import Derived.Test.YtabmfaamadbefaaRo
set_option linter.unusedSimpArgs false
set_option linter.unusedVariables false
set_option linter.unusedSectionVars false
namespace Go.Proofs.Ytabmfaamadbefaa
open Go.RowKit

theorem meetR_makeR {hs : List H3} (G : ∀ g ∈ hs, HOk g) : meetR hs = if 40 < (makeR hs).length then ([], false) else (makeR hs, true) := by
  unfold meetR
  rw [make_eq (good_sorted G)]
  rfl
theorem heap_new_at {w : World} {o : Obj} {n : Nat} {r : Option Obj} (hn : n = w.heap.size) (hr : r = some o) : (w.alloc o).heap[n]? = r := by subst hn hr; exact heap_alloc_new _ _
theorem heap_old_at {w : World} {o : Obj} {n : Nat} (hn : n < w.heap.size) : (w.alloc o).heap[n]? = w.heap[n]? := ((Below.refl w.heap.size w).alloc (Nat.le_refl _) o).block n hn
theorem fromR_short {hs out : List H3} {ok : Bool} (h : fromR hs = (out, ok)) : out.length ≤ 40 := by
  unfold fromR meetR at h
  split at h
  · split at h
    · simp at h; rw [h.1]; simp
    · simp at h; rw [← h.1]; omega
  · simp at h; rw [h.1]; simp

end Go.Proofs.Ytabmfaamadbefaa
