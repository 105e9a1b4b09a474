/- Contract of the program's RatioCmp. Condition: the numbers are ints. -/
import Derived.Test.YtfbfaidblggceaaRa
set_option linter.unusedSimpArgs false
set_option linter.unusedVariables false
set_option linter.unusedSectionVars false
namespace Go.Proofs.Ytfbfaidblggceaa
open Go.RowKit Go.Lib

theorem impl_RatioCmp_any (n d m e : Int) (w : World) (hn : -9223372036854775808 ≤ n ∧ n ≤ 9223372036854775807) (hd : -9223372036854775808 ≤ d ∧ d ≤ 9223372036854775807) (hm : -9223372036854775808 ≤ m ∧ m ≤ 9223372036854775807) (he : -9223372036854775808 ≤ e ∧ e ≤ 9223372036854775807) :
    Calls Try.prog 40 #[.agg #[.int .i64 n, .int .i64 d], .agg #[.int .i64 m, .int .i64 e]] w fun e' w' => e' = .returned (.int .i64 (ratioCmp n d m e)) ∧ Below w.heap.size w w' := by
  have HS := Lib.hid (show (if ratioOk n d = true ∧ ratioOk m e = true then cmpF n d m e else 0) = ratioCmp n d m e from rfl)
  rcases chain2 (ratioOk n d) (ratioOk m e) with h1 | ⟨h1, h2⟩ | ⟨h1, h2⟩
  · go_enter Try.func40, Try.ntmps40
    go_wp2_with (first | (go_at_call 41; (first | (with_reducible refine (calls_ov2 (impl_RatioOk_eq (by assumption) (by omega) (by omega))).mono ?_) | refine (calls_ov (impl_RatioOk_eq (by assumption) (by omega) (by omega))).mono ?_); rintro e w' ⟨rfl, x, rfl⟩))
    go_ret
    exact ⟨ret_int (by rw [← HS.out, if_neg (by rw [h1]; simp)]), (by repeat (first | exact bR | refine bO ?_ | refine bA ?_ | refine bS ?_ | refine bD ?_ | refine bN ?_))⟩
  · go_enter Try.func40, Try.ntmps40
    go_wp2_with (first | (go_at_call 41; (first | (with_reducible refine (calls_ov2 (impl_RatioOk_eq (by assumption) (by omega) (by omega))).mono ?_) | refine (calls_ov (impl_RatioOk_eq (by assumption) (by omega) (by omega))).mono ?_); rintro e w' ⟨rfl, x, rfl⟩))
    go_ret
    exact ⟨ret_int (by rw [← HS.out, if_neg (by rw [h2]; simp)]), (by repeat (first | exact bR | refine bO ?_ | refine bA ?_ | refine bS ?_ | refine bD ?_ | refine bN ?_))⟩
  · have q1 := ratioOk_bd h1
    have q2 := ratioOk_bd h2
    go_enter Try.func40, Try.ntmps40
    go_wp2_with (first | (go_at_call 41; (first | (with_reducible refine (calls_ov2 (impl_RatioOk_eq (by assumption) (by omega) (by omega))).mono ?_) | refine (calls_ov (impl_RatioOk_eq (by assumption) (by omega) (by omega))).mono ?_); rintro e w' ⟨rfl, x, rfl⟩) | (go_at_call 54; refine (compareFractions_any _ _ _ _ _ (by omega) (by omega) (by omega) (by omega)).mono ?_; rintro e w' ⟨rfl, rfl⟩))
    go_ret
    exact ⟨ret_int (by rw [← HS.out, if_pos ⟨h1, h2⟩]), (by repeat (first | exact bR | refine bO ?_ | refine bA ?_ | refine bS ?_ | refine bD ?_ | refine bN ?_))⟩

end Go.Proofs.Ytfbfaidblggceaa
