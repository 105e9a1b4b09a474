/- What every law's proof uses: the frame and the arguments opened. No condition. -/
import Derived.Test.YtfbfaidblggceaaWords
import Derived.Test.YtfbfaidblggceaaRows
import Derived.ProofKit
import Derived.Lib.SmallJoins
import Derived.ChangeOld
set_option linter.unusedVariables false
namespace Go.Proofs.Ytfbfaidblggceaa
open Go.ChangeShapes Go.WideShapes Go.ChangeAt Go.RowKit Go.Joins

theorem own : ownKnob Try.prog.godebug = none := by kernel_rfl
theorem laidOut : laidOutB Try.prog = true := by kernel_rfl
theorem wf_bd {x : Int} (h : (Lit.int .i64 x).wf = true) : -9223372036854775808 ≤ x ∧ x ≤ 9223372036854775807 := by
  simp [Lit.wf, IntKind.min, IntKind.max, IntKind.signed, IntKind.bits] at h
  omega

section
variable {H : Type} {enc : TypeId × Value → H} {w : World} {base : Nat} {spare : Nat → Bool} {held : Bool} {n : Nat}
theorem int_of_trod {v : Value} {y : DataW H × List MemPlace}
    (h : DataW.trod enc Try.prog w base spare held n 3 [v] = some y) : ∃ x : Int, v = .int .i64 x ∧ -9223372036854775808 ≤ x ∧ x ≤ 9223372036854775807 := by
  obtain ⟨x, e, _, hx⟩ := DataW.trod_int Try.underlying3 h
  simp at e
  exact ⟨x, e, wf_bd hx⟩
theorem cells_int : Try.prog.cellsOf 3 = 1 := by kernel_rfl
theorem cells_ratio : Try.prog.cellsOf 23 = 2 := by kernel_rfl
theorem ratio_of_trod {a b : Value} {y : DataW H × List MemPlace} (h : DataW.trod enc Try.prog w base spare held n 23 [a, b] = some y) :
    ∃ x z : Int, a = .int .i64 x ∧ b = .int .i64 z ∧ (-9223372036854775808 ≤ x ∧ x ≤ 9223372036854775807) ∧ (-9223372036854775808 ≤ z ∧ z ≤ 9223372036854775807) := by
  obtain ⟨y0, y1, n', _, _, h0, h1⟩ := trod_struct2 Try.underlying23 h
  obtain ⟨x, rfl, bx⟩ := int_of_trod (v := a) (by simpa [cells_int] using h0)
  obtain ⟨z, rfl, bz⟩ := int_of_trod (v := b) (by simpa [cells_int] using h1)
  exact ⟨x, z, rfl, rfl, bx, bz⟩
set_option maxRecDepth 100000 in
theorem open_ratio {v : Value} {d : DataW H} {p : List MemPlace} {r : Reach} {b0 : Nat} (hv : Value.okWide Try.prog w r b0 23 v) (h : DataW.Trod enc Try.prog w base spare held 23 v d p) :
    ∃ x z : Int, v = .agg #[.int .i64 x, .int .i64 z] ∧ (-9223372036854775808 ≤ x ∧ x ≤ 9223372036854775807) ∧ (-9223372036854775808 ≤ z ∧ z ≤ 9223372036854775807) := by
  obtain ⟨⟨l⟩, rfl, hsz⟩ := okWide_struct Try.underlying23 hv
  rw [cells_ratio] at hsz
  match l, hsz with
  | [a, b], _ =>
    obtain ⟨fuel, hf⟩ := h
    obtain ⟨x, z, rfl, rfl, bx, bz⟩ := ratio_of_trod (a := a) (b := b) hf
    exact ⟨x, z, rfl, bx, bz⟩
set_option maxRecDepth 100000 in
theorem open_span {v : Value} {d : DataW H} {p : List MemPlace} {r : Reach} {b0 : Nat} (hv : Value.okWide Try.prog w r b0 25 v) (h : DataW.Trod enc Try.prog w base spare held 25 v d p) :
    ∃ x z u v' : Int, v = .agg #[.int .i64 x, .int .i64 z, .int .i64 u, .int .i64 v'] ∧ (-9223372036854775808 ≤ x ∧ x ≤ 9223372036854775807) ∧ (-9223372036854775808 ≤ z ∧ z ≤ 9223372036854775807) ∧ (-9223372036854775808 ≤ u ∧ u ≤ 9223372036854775807) ∧ (-9223372036854775808 ≤ v' ∧ v' ≤ 9223372036854775807) := by
  obtain ⟨⟨l⟩, rfl, hsz⟩ := okWide_struct Try.underlying25 hv
  rw [show Try.prog.cellsOf 25 = 4 by kernel_rfl] at hsz
  match l, hsz with
  | [a, b, c, e], _ =>
    obtain ⟨fuel, hf⟩ := h
    obtain ⟨y0, y1, n', _, _, h0, h1⟩ := trod_struct2 Try.underlying25 hf
    obtain ⟨x, z, rfl, rfl, bx, bz⟩ := ratio_of_trod (a := a) (b := b) (by simpa [cells_ratio, Value.cells] using h0)
    obtain ⟨u, v', rfl, rfl, bu, bv⟩ := ratio_of_trod (a := c) (b := e) (by simpa [cells_ratio, Value.cells] using h1)
    exact ⟨x, z, u, v', rfl, bx, bz, bu, bv⟩
end
end Go.Proofs.Ytfbfaidblggceaa
