/- Spots in the laws: the argument opened, the copy, the comparison. No condition. -/
import Derived.Test.YtgdleimdenbnlaaLq
set_option linter.unusedVariables false
set_option linter.unusedSimpArgs false
set_option linter.unusedSectionVars false
namespace Go.Proofs.Ytgdleimdenbnlaa
open Go.ChangeShapes Go.WideShapes Go.ChangeAt Go.RowKit Go.Joins

theorem toSpot_any (a b c : Int) (w : World) :
    Calls Try.prog 26 #[.agg #[.int .i64 a, .int .i64 b, .int .i64 c]] w fun e w' => e = .returned (.agg #[.int .i64 a, .int .i64 b, .int .i64 c]) ∧ Below w.heap.size w w' := by
  go_enter Try.func26, Try.ntmps26
  go_wp2
  refine bodyPost_ret (v := .agg #[.int .i64 a, .int .i64 b, .int .i64 c]) (by simp [results, Try.results26, go_sem]) rfl ⟨rfl, ?_⟩
  (repeat (first | exact bR | refine bO ?_ | refine bA ?_ | refine bS ?_ | refine bD ?_ | refine bN ?_))
theorem eqSpot_same (a b c : Int) (w : World) :
    Calls Try.prog 28 #[.agg #[.int .i64 a, .int .i64 b, .int .i64 c], .agg #[.int .i64 a, .int .i64 b, .int .i64 c]] w fun e w' => e = .returned (.bool true) ∧ Below w.heap.size w w' := by
  go_enter Try.func28, Try.ntmps28
  go_wp2
  go_ret
  exact ⟨rfl, (by repeat (first | exact bR | refine bO ?_ | refine bA ?_ | refine bS ?_ | refine bD ?_ | refine bN ?_))⟩
section
variable {H : Type} {enc : TypeId × Value → H} {w : World} {base : Nat} {spare : Nat → Bool} {held : Bool} {n : Nat}
set_option maxRecDepth 100000 in
theorem open_spot {v : Value} {d : DataW H} {p : List MemPlace} {r : Reach} {b0 : Nat} (hv : Value.okWide Try.prog w r b0 53 v) (h : DataW.Trod enc Try.prog w base spare held 53 v d p) :
    ∃ x y z : Int, v = .agg #[.int .i64 x, .int .i64 y, .int .i64 z] ∧ (-9223372036854775808 ≤ x ∧ x ≤ 9223372036854775807) ∧ (-9223372036854775808 ≤ y ∧ y ≤ 9223372036854775807) ∧ (-9223372036854775808 ≤ z ∧ z ≤ 9223372036854775807) := by
  obtain ⟨⟨l⟩, rfl, hsz⟩ := okWide_struct Try.underlying53 hv
  rw [show Try.prog.cellsOf 53 = 3 by kernel_rfl] at hsz
  match l, hsz with
  | [c0, c1, c2], _ =>
    obtain ⟨fuel, hf⟩ := h
    obtain ⟨ys, n', _, _, _, hyl, hg⟩ := DataW.trod_struct Try.underlying53 hf
    have f0 : DataW.trod enc Try.prog w base spare held n' 3 [c0] = ys[0]? := by simpa [cells_int, Value.cells] using hg 0 _ rfl
    have f1 : DataW.trod enc Try.prog w base spare held n' 3 [c1] = ys[1]? := by simpa [cells_int, Value.cells] using hg 1 _ rfl
    have f2 : DataW.trod enc Try.prog w base spare held n' 3 [c2] = ys[2]? := by simpa [cells_int, Value.cells] using hg 2 _ rfl
    have hy3 : ys.length = 3 := hyl
    obtain ⟨y0, hy0⟩ : ∃ y0, ys[0]? = some y0 := ⟨_, List.getElem?_eq_getElem (by omega)⟩
    obtain ⟨y1, hy1⟩ : ∃ y0, ys[1]? = some y0 := ⟨_, List.getElem?_eq_getElem (by omega)⟩
    obtain ⟨y2, hy2⟩ : ∃ y0, ys[2]? = some y0 := ⟨_, List.getElem?_eq_getElem (by omega)⟩
    rw [hy0] at f0
    rw [hy1] at f1
    rw [hy2] at f2
    obtain ⟨a, rfl, ba⟩ := int_of_trod f0
    obtain ⟨b, rfl, bb⟩ := int_of_trod f1
    obtain ⟨c, rfl, bc⟩ := int_of_trod f2
    exact ⟨a, b, c, rfl, ba, bb, bc⟩
end

end Go.Proofs.Ytgdleimdenbnlaa
