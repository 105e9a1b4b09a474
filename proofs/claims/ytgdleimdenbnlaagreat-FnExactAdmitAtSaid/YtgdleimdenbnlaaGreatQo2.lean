/- Joins what the law on AdmitAt uses; the laws' comparison of spans. No condition. -/
import Derived.Test.YtgdleimdenbnlaaGreatKl
import Derived.Test.YtgdleimdenbnlaaGreatLk
import Derived.Test.YtgdleimdenbnlaaGreatQo
set_option linter.unusedVariables false
set_option linter.unusedSimpArgs false
namespace Go.Proofs.YtgdleimdenbnlaaGreat
open Go.RowKit

theorem eqRatio_same2 (a b : Int) (w : World) :
    Calls Tryz.prog 51 #[.agg #[.int .i64 a, .int .i64 b], .agg #[.int .i64 a, .int .i64 b]] w fun e w' => e = .returned (.bool true) ∧ Below w.heap.size w w' := by
  go_enter Tryz.func51, Tryz.ntmps51
  go_wp2
  go_ret
  exact ⟨rfl, (by repeat (first | exact bR | refine bO ?_ | refine bA ?_ | refine bS ?_ | refine bD ?_ | refine bN ?_))⟩
theorem eqSpan_same (a b c d : Int) (w : World) : Calls Tryz.prog 31 #[.agg #[.int .i64 a, .int .i64 b, .int .i64 c, .int .i64 d], .agg #[.int .i64 a, .int .i64 b, .int .i64 c, .int .i64 d]] w fun e w' => e = .returned (.bool true) ∧ Below w.heap.size w w' := by
  go_enter Tryz.func31, Tryz.ntmps31
  go_wp2_with ((go_at_call 51; (first | (with_reducible refine (calls_ov2 (eqRatio_same2 _ _ _)).mono ?_) | refine (calls_ov (eqRatio_same2 _ _ _)).mono ?_); rintro e w' ⟨rfl, x, rfl⟩))
  go_ret
  exact ⟨rfl, (by repeat (first | exact bR | refine bO ?_ | refine bA ?_ | refine bS ?_ | refine bD ?_ | refine bN ?_))⟩
end Go.Proofs.YtgdleimdenbnlaaGreat
