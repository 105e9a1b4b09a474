/- A store of a whole span into a block that lies above a world: the world keeps its form. Condition: the block holds a span. -/
import Derived.Test.YtfbfaidblggceaaFa
import Derived.Test.YtfbfaidblggceaaSpan
set_option linter.unusedSimpArgs false
set_option linter.unusedVariables false
namespace Go.Proofs.Ytfbfaidblggceaa
open Go.RowKit

theorem ov_store {W : World} {x : More} {b : Nat} {arr : Array Value} {T : TypeId} (hb : W.heap.size ≤ b) (hx : (ov W x).heap[b]? = some (.cells arr T (0, 0))) (j : Nat) (v : Value) :
    ∃ x', (ov W x).setCell ⟨b, j, none⟩ v = ov W x' ∧ (ov W x').heap[b]? = some (.cells (arr.setIfInBounds j v) T (0, 0)) := by
  have hbl : Below W.heap.size W ((ov W x).setCell ⟨b, j, none⟩ v) := (below_ov W x (Below.refl _ _) (Nat.le_refl _)).setCell hb v
  obtain ⟨x', e⟩ := ov_of_below hbl
  refine ⟨x', e, ?_⟩
  rw [← e]
  simp [World.setCell, hx, Array.getElem?_modify]

theorem store4 {ops : Array Oper} {Q : Exit → Act → World → Prop} {o : Oper} {rest : List Oper} {a : Act} {W : World} {x : More} {b : Nat} {u0 u1 u2 u3 : Value} {z0 z1 z2 z3 : Int} (hg : o.guard = none) (s t : Nat)
    (hop : o.op = .store 29 (.tmp s) (.tmp t)) (es : a.eval (.tmp s) = .pointer (some ⟨b, 0, none⟩)) (et : a.eval (.tmp t) = .agg #[.int .i64 z0, .int .i64 z1, .int .i64 z2, .int .i64 z3]) (hb : W.heap.size ≤ b)
    (hx : (ov W x).heap[b]? = some (.cells #[u0, u1, u2, u3] 29 (0, 0)))
    (h : ∀ x', (ov W x').heap[b]? = some (.cells #[.int .i64 z0, .int .i64 z1, .int .i64 z2, .int .i64 z3] 29 (0, 0)) → wpList Try.prog ops Q rest (a.put o.dst undef) (ov W x')) :
    wpList Try.prog ops Q (o :: rest) a (ov W x) := by
  have run : ∃ x', (execOp a.eval o).run Try.prog (ov W x) = .ok .skip (ov W x') ∧ (ov W x').heap[b]? = some (.cells #[.int .i64 z0, .int .i64 z1, .int .i64 z2, .int .i64 z3] 29 (0, 0)) := by
    obtain ⟨x1, e1, k1⟩ := ov_store hb hx 0 (.int .i64 z0)
    obtain ⟨x2, e2, k2⟩ := ov_store hb k1 1 (.int .i64 z1)
    obtain ⟨x3, e3, k3⟩ := ov_store hb k2 2 (.int .i64 z2)
    obtain ⟨x4, e4, k4⟩ := ov_store hb k3 3 (.int .i64 z3)
    refine ⟨x4, ?_, by simpa using k4⟩
    have c0 := cell_blk (j := 0) hx rfl
    have c1 := cell_blk (j := 1) k1 rfl
    have c2 := cell_blk (j := 2) k2 rfl
    have c3 := cell_blk (j := 3) k3 rfl
    have f0 := frozen_blk (j := 0) hx
    have f1 := frozen_blk (j := 1) k1
    have f2 := frozen_blk (j := 2) k2
    have f3 := frozen_blk (j := 3) k3
    clear hx k1 k2 k3 k4 hb h
    unfold execOp
    rw [hop]
    simp only [es, et]
    simp [go_sem, c0, c1, c2, c3, f0, f1, f2, f3, e1, e2, e3, e4]
  obtain ⟨x', hr, hk⟩ := run
  refine wpList_plain hg fun _ hK => ?_
  unfold Oper.wp
  rw [hr]
  exact hK _ _ (h x' hk)
end Go.Proofs.Ytfbfaidblggceaa
