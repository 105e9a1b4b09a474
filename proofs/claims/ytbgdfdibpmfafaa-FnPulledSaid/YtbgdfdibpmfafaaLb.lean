/- What every law's proof uses: the frame, and ints opened. No condition. -/
import Derived.Test.YtbgdfdibpmfafaaWords
import Derived.Test.YtbgdfdibpmfafaaRows
import Derived.ProofKit
import Derived.Lib.SmallJoins
import Derived.ChangeOld
set_option linter.unusedVariables false
namespace Go.Proofs.Ytbgdfdibpmfafaa
open Go.ChangeShapes Go.WideShapes Go.ChangeAt Go.RowKit Go.Joins

theorem own : ownKnob Try.prog.godebug = none := by kernel_rfl
theorem laidOut : laidOutB Try.prog = true := by kernel_rfl
theorem wf_bd {x : Int} (h : (Lit.int .i64 x).wf = true) : -9223372036854775808 ≤ x ∧ x ≤ 9223372036854775807 := by
  simp [Lit.wf, IntKind.min, IntKind.max, IntKind.signed, IntKind.bits] at h
  omega

section
variable {H : Type} {enc : TypeId × Value → H} {w : World} {base : Nat} {spare : Nat → Bool} {held : Bool} {n : Nat}
theorem int_of_trod {v : Value} {y : DataW H × List MemPlace}
    (h : DataW.trod enc Try.prog w base spare held n 3 [v] = some y) : ∃ x : Int, v = .int .i64 x ∧ -9223372036854775808 ≤ x ∧ x ≤ 9223372036854775807 := by
  obtain ⟨x, e, _, hx⟩ := DataW.trod_int Try.underlying3 h
  simp at e
  exact ⟨x, e, wf_bd hx⟩
theorem cells_int : Try.prog.cellsOf 3 = 1 := by kernel_rfl
end
end Go.Proofs.Ytbgdfdibpmfafaa
