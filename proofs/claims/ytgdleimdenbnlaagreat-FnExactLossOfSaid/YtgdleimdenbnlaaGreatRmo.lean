/- Contracts of RatioMin, RatioMax and MeetSpans in the program and in the reference. Condition: the numbers are ints. -/
import Derived.Test.YtgdleimdenbnlaaGreatSpo
set_option linter.unusedSimpArgs false
set_option linter.unusedVariables false
set_option linter.unusedSectionVars false
namespace Go.Proofs.YtgdleimdenbnlaaGreat
open Go.RowKit Go.Lib

def ratMax (n d m e : Int) : Int × Int := if 0 ≤ ratioCmp n d m e then (n, d) else (m, e)
theorem ret_agg2 {a b c d : Int} (h : (a, b) = (c, d)) : Ending.returned (.agg #[.int .i64 a, .int .i64 b]) = .returned (.agg #[.int .i64 c, .int .i64 d]) := by
  injection h with h1 h2; rw [h1, h2]

section
variable {n d m e p q : Int}
set_option maxHeartbeats 1000000 in
theorem spec_RatioMax_eq {w : World} (h1 : ratioOk n d = true) (h2 : ratioOk m e = true) (hp : Hid (ratMax n d m e = (p, q))) :
    Calls Tryz.prog 99 #[.agg #[.int .i64 n, .int .i64 d], .agg #[.int .i64 m, .int .i64 e]] w fun e' w' => e' = .returned (.agg #[.int .i64 p, .int .i64 q]) ∧ Below w.heap.size w w' := by
  have q1 := ratioOk_bd h1
  have q2 := ratioOk_bd h2
  obtain ⟨c, hc⟩ : ∃ c, ratioCmp n d m e = c := ⟨_, rfl⟩
  have HC := Lib.hid hc
  by_cases k : 0 ≤ c
  · have HP := Lib.hid (show (n, d) = (p, q) by rw [← hp.out]; unfold ratMax; rw [hc, if_pos k])
    clear hc
    go_enter Tryz.func99, Tryz.ntmps99
    go_wp2_with (first | (go_at_call 100; (first | (with_reducible refine (calls_ov2 (spec_RatioOk_eq (by assumption) (by omega) (by omega))).mono ?_) | refine (calls_ov (spec_RatioOk_eq (by assumption) (by omega) (by omega))).mono ?_); rintro e w' ⟨rfl, x, rfl⟩) | (go_at_call 148; (first | (with_reducible refine (calls_ov2 (spec_RatioCmp_s (by assumption) (by omega) (by omega) (by omega) (by omega))).mono ?_) | refine (calls_ov (spec_RatioCmp_s (by assumption) (by omega) (by omega) (by omega) (by omega))).mono ?_); rintro e w' ⟨rfl, x, rfl⟩))
    refine bodyPost_ret (v := .agg #[.int .i64 n, .int .i64 d]) (by simp [results, Tryz.results99, go_sem]) rfl ⟨ret_agg2 HP.out, ?_⟩
    (repeat (first | exact bR | refine bO ?_ | refine bA ?_ | refine bS ?_ | refine bD ?_ | refine bN ?_))
  · have HP := Lib.hid (show (m, e) = (p, q) by rw [← hp.out]; unfold ratMax; rw [hc, if_neg k])
    clear hc
    go_enter Tryz.func99, Tryz.ntmps99
    go_wp2_with (first | (go_at_call 100; (first | (with_reducible refine (calls_ov2 (spec_RatioOk_eq (by assumption) (by omega) (by omega))).mono ?_) | refine (calls_ov (spec_RatioOk_eq (by assumption) (by omega) (by omega))).mono ?_); rintro e w' ⟨rfl, x, rfl⟩) | (go_at_call 148; (first | (with_reducible refine (calls_ov2 (spec_RatioCmp_s (by assumption) (by omega) (by omega) (by omega) (by omega))).mono ?_) | refine (calls_ov (spec_RatioCmp_s (by assumption) (by omega) (by omega) (by omega) (by omega))).mono ?_); rintro e w' ⟨rfl, x, rfl⟩))
    refine bodyPost_ret (v := .agg #[.int .i64 m, .int .i64 e]) (by simp [results, Tryz.results99, go_sem]) rfl ⟨ret_agg2 HP.out, ?_⟩
    (repeat (first | exact bR | refine bO ?_ | refine bA ?_ | refine bS ?_ | refine bD ?_ | refine bN ?_))
end
end Go.Proofs.YtgdleimdenbnlaaGreat
