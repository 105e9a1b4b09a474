/- Contracts of the laws' conversions of fractions and spans. No condition. -/
import Derived.Test.YtfbfaidblggceaaLf
set_option linter.unusedVariables false
set_option linter.unusedSimpArgs false
namespace Go.Proofs.Ytfbfaidblggceaa
open Go.ChangeShapes Go.WideShapes Go.ChangeAt Go.RowKit Go.Joins

theorem toRatio_any (a b : Int) (w : World) :
    Calls Try.prog 27 #[.agg #[.int .i64 a, .int .i64 b]] w fun e w' => e = .returned (.agg #[.int .i64 a, .int .i64 b]) ∧ Below w.heap.size w w' := by
  go_enter Try.func27, Try.ntmps27
  go_wp2
  refine bodyPost_ret (v := .agg #[.int .i64 a, .int .i64 b]) (by simp [results, Try.results27, go_sem]) rfl ⟨rfl, (by repeat (first | exact Below.refl _ _ | refine below_ov _ _ ?_ (by simp [ov_size] <;> omega) | refine Below.alloc ?_ (by simp [ov_size] <;> omega) _ | refine Below.setCell ?_ (by simp [ov_size] <;> omega) _ | refine Below.drew ?_ | refine below_drewN ?_ _))⟩

theorem toSpan_any (a b c d : Int) (w : World) :
    Calls Try.prog 8 #[.agg #[.int .i64 a, .int .i64 b, .int .i64 c, .int .i64 d]] w fun e w' => e = .returned (.agg #[.int .i64 a, .int .i64 b, .int .i64 c, .int .i64 d]) ∧ Below w.heap.size w w' := by
  go_enter Try.func8, Try.ntmps8
  go_wp2_with (first | (go_at_call 27; (first | (with_reducible refine (calls_ov2 (toRatio_any _ _ _)).mono ?_) | refine (calls_ov (toRatio_any _ _ _)).mono ?_); rintro e w' ⟨rfl, x, rfl⟩))
  refine bodyPost_ret (v := .agg #[.int .i64 a, .int .i64 b, .int .i64 c, .int .i64 d]) (by simp [results, Try.results8, go_sem]) rfl ⟨rfl, ?_⟩
  (repeat (first | exact Below.refl _ _ | refine below_ov _ _ ?_ (by simp [ov_size] <;> omega) | refine Below.alloc ?_ (by simp [ov_size] <;> omega) _ | refine Below.setCell ?_ (by simp [ov_size] <;> omega) _ | refine Below.drew ?_ | refine below_drewN ?_ _))

end Go.Proofs.Ytfbfaidblggceaa
