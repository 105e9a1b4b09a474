/- The program's BoxRegion at bounds in their range. Condition: they are in their range. -/
import Derived.Test.YtabmfaamadbefaaZe
set_option linter.unusedVariables false
set_option linter.unusedSimpArgs false
set_option linter.unusedSectionVars false
namespace Go.Proofs.Ytabmfaamadbefaa
open Go.RowKit

theorem areBounds_yes {a b : Int} {w : World} (h1 : -1000 ≤ a) (h2 : a < b) (h3 : b ≤ 1000) : Calls Try.prog 51 #[.int .i64 a, .int .i64 b] w fun e w' => e = .returned (.bool true) ∧ w = w' := by
  go_enter Try.func51, Try.ntmps51
  go_wp2
  go_ret
  exact ⟨rfl, rfl⟩
theorem box_from {x0 y0 x1 y1 : Int} (B : BoxBd x0 y0 x1 y1) : fromR (boxB x0 y0 x1 y1) = (boxB x0 y0 x1 y1, true) := by
  have := box_reg B
  unfold regionOk at this
  have hne : boxB x0 y0 x1 y1 ≠ [] := by simp [boxB]
  simp only [hne, decide_false, Bool.false_or, Bool.and_eq_true, decide_eq_true_eq] at this
  exact Prod.ext this.2.symm this.1
set_option maxRecDepth 100000 in
set_option maxHeartbeats 4000000 in
theorem impl_BoxRegion_any {x0 y0 x1 y1 : Int} {w : World} (B : BoxBd x0 y0 x1 y1) :
    Calls Try.prog 20 #[.int .i64 x0, .int .i64 y0, .int .i64 x1, .int .i64 y1] w (RegPost w (boxB x0 y0 x1 y1) true) := by
  obtain ⟨hx1, hx2, hx3⟩ := B.lx
  obtain ⟨hy1, hy2, hy3⟩ := B.ly
  have HF := Lib.hid (box_from B)
  go_enter Try.func20, Try.ntmps20
  go_wp2_with (first | (go_at_call 51; refine (areBounds_yes (by omega) (by omega) (by omega)).mono ?_; rintro e w' ⟨rfl, rfl⟩))
  obtain ⟨W0, hW⟩ : ∃ W0, (w.alloc (.cells #[.slice none 0 0] 25)).alloc (.cells #[.int .i64 1, .int .i64 0, .int .i64 x1, .int .i64 0, .int .i64 1, .int .i64 y1, .int .i64 (-1), .int .i64 0, .int .i64 (-x0), .int .i64 0, .int .i64 (-1), .int .i64 (-y0)] 36) = W0 := ⟨_, rfl⟩
  rw [hW]
  have T0 : Below w.heap.size w W0 := by rw [← hW]; exact (by repeat (first | exact bR | refine bO ?_ | refine bA ?_ | refine bS ?_ | refine bD ?_ | refine bN ?_))
  have X0 : Hid (W0.heap[w.heap.size]? = some (.cells #[.slice none 0 0] 25 (0, 0))) := Lib.hid (by rw [← hW]; exact (heap_old_at (by simp)).trans (heap_new_at (by simp) rfl))
  have L0 : RB (w.heap.size + 1) 36 W0 (some ⟨w.heap.size + 1, 0, none⟩) 4 (boxB x0 y0 x1 y1) := by rw [← hW]; exact ⟨rfl, .inr ⟨w.heap.size + 1, 4, _, rfl, by omega, heap_new_at (by simp) rfl, Nat.le_refl _, by unfold maxLen; omega, rfl, rfl⟩⟩
  clear hW
  refine (RegionFrom_eq (hs := boxB x0 y0 x1 y1) L0.r3 ⟨by simp [boxB], by simp [boxB]⟩ HF).mono ?_
  rintro e W1 ⟨A1, c1, rfl, L1, K⟩
  have T1 : Below w.heap.size w W1 := T0.trans (K.mono T0.size)
  have X1 := (K.block w.heap.size (Array.getElem?_eq_some_iff.1 X0.out).1).trans X0.out
  have L2 := L1.weak (B' := w.heap.size) T0.size
  clear L0 X0 T0 K L1
  obtain ⟨r, hr⟩ : ∃ r, w.heap.size = r := ⟨_, rfl⟩
  rw [hr] at X1 ⊢
  have x0' := cell_blk (j := 0) (v := .slice none 0 0) X1 rfl
  have f0 := frozen_blk (j := 0) X1
  have lr := (Array.getElem?_eq_some_iff.1 X1).1
  have HH : Hid (RB w.heap.size 36 (W1.setCell ⟨r, 0, none⟩ (.slice A1 (boxB x0 y0 x1 y1).length c1)) A1 c1 (boxB x0 y0 x1 y1) ∧ Below w.heap.size w (W1.setCell ⟨r, 0, none⟩ (.slice A1 (boxB x0 y0 x1 y1).length c1))) := Lib.hid ⟨L2.set_box X1 (by decide), T1.setCell (Nat.le_of_eq hr) _⟩
  clear L2 X1 T1
  go_wp2
  refine bodyPost_ret (v := .tuple #[.agg #[.slice A1 (boxB x0 y0 x1 y1).length c1], .bool true]) (by simp [results, Try.results20, go_sem, x0', f0, lr]) rfl ⟨A1, c1, rfl, HH.out⟩
end Go.Proofs.Ytabmfaamadbefaa
