/- Contracts of RatioMin, RatioMax and MeetSpans in the program and in the reference. Condition: the numbers are ints. -/
import Derived.Test.YtfbfaidblggceaaSpan
set_option linter.unusedSimpArgs false
set_option linter.unusedVariables false
set_option linter.unusedSectionVars false
namespace Go.Proofs.Ytfbfaidblggceaa
open Go.RowKit Go.Lib

def ratMin (n d m e : Int) : Int × Int := if ratioCmp n d m e ≤ 0 then (n, d) else (m, e)
def ratMax (n d m e : Int) : Int × Int := if 0 ≤ ratioCmp n d m e then (n, d) else (m, e)
theorem ratMin_ok {n d m e : Int} (h1 : ratioOk n d = true) (h2 : ratioOk m e = true) : ratioOk (ratMin n d m e).1 (ratMin n d m e).2 = true := by
  unfold ratMin; split <;> assumption
theorem ratMax_ok {n d m e : Int} (h1 : ratioOk n d = true) (h2 : ratioOk m e = true) : ratioOk (ratMax n d m e).1 (ratMax n d m e).2 = true := by
  unfold ratMax; split <;> assumption

theorem ret_agg2 {a b c d : Int} (h : (a, b) = (c, d)) : Ending.returned (.agg #[.int .i64 a, .int .i64 b]) = .returned (.agg #[.int .i64 c, .int .i64 d]) := by
  injection h with h1 h2; rw [h1, h2]

section
variable {n d m e p q : Int}
set_option maxHeartbeats 1000000 in
theorem impl_RatioMin_eq {w : World} (h1 : ratioOk n d = true) (h2 : ratioOk m e = true) (hp : Hid (ratMin n d m e = (p, q))) :
    Calls Try.prog 34 #[.agg #[.int .i64 n, .int .i64 d], .agg #[.int .i64 m, .int .i64 e]] w fun e' w' => e' = .returned (.agg #[.int .i64 p, .int .i64 q]) ∧ Below w.heap.size w w' := by
  have q1 := ratioOk_bd h1
  have q2 := ratioOk_bd h2
  obtain ⟨c, hc⟩ : ∃ c, ratioCmp n d m e = c := ⟨_, rfl⟩
  have HC := Lib.hid hc
  by_cases k : c ≤ 0
  · have HP := Lib.hid (show (n, d) = (p, q) by rw [← hp.out]; unfold ratMin; rw [hc, if_pos k])
    clear hc
    go_enter Try.func34, Try.ntmps34
    go_wp2_with (first | (go_at_call 41; (first | (with_reducible refine (calls_ov2 (impl_RatioOk_eq (by assumption) (by omega) (by omega))).mono ?_) | refine (calls_ov (impl_RatioOk_eq (by assumption) (by omega) (by omega))).mono ?_); rintro e w' ⟨rfl, x, rfl⟩) | (go_at_call 40; (first | (with_reducible refine (calls_ov2 (impl_RatioCmp_eq (by assumption) (by omega) (by omega) (by omega) (by omega))).mono ?_) | refine (calls_ov (impl_RatioCmp_eq (by assumption) (by omega) (by omega) (by omega) (by omega))).mono ?_); rintro e w' ⟨rfl, x, rfl⟩))
    refine bodyPost_ret (v := .agg #[.int .i64 n, .int .i64 d]) (by simp [results, Try.results34, go_sem]) rfl ⟨ret_agg2 HP.out, ?_⟩
    (repeat (first | exact bR | refine bO ?_ | refine bA ?_ | refine bS ?_ | refine bD ?_ | refine bN ?_))
  · have HP := Lib.hid (show (m, e) = (p, q) by rw [← hp.out]; unfold ratMin; rw [hc, if_neg k])
    clear hc
    go_enter Try.func34, Try.ntmps34
    go_wp2_with (first | (go_at_call 41; (first | (with_reducible refine (calls_ov2 (impl_RatioOk_eq (by assumption) (by omega) (by omega))).mono ?_) | refine (calls_ov (impl_RatioOk_eq (by assumption) (by omega) (by omega))).mono ?_); rintro e w' ⟨rfl, x, rfl⟩) | (go_at_call 40; (first | (with_reducible refine (calls_ov2 (impl_RatioCmp_eq (by assumption) (by omega) (by omega) (by omega) (by omega))).mono ?_) | refine (calls_ov (impl_RatioCmp_eq (by assumption) (by omega) (by omega) (by omega) (by omega))).mono ?_); rintro e w' ⟨rfl, x, rfl⟩))
    refine bodyPost_ret (v := .agg #[.int .i64 m, .int .i64 e]) (by simp [results, Try.results34, go_sem]) rfl ⟨ret_agg2 HP.out, ?_⟩
    (repeat (first | exact bR | refine bO ?_ | refine bA ?_ | refine bS ?_ | refine bD ?_ | refine bN ?_))
set_option maxHeartbeats 1000000 in
theorem impl_RatioMax_eq {w : World} (h1 : ratioOk n d = true) (h2 : ratioOk m e = true) (hp : Hid (ratMax n d m e = (p, q))) :
    Calls Try.prog 33 #[.agg #[.int .i64 n, .int .i64 d], .agg #[.int .i64 m, .int .i64 e]] w fun e' w' => e' = .returned (.agg #[.int .i64 p, .int .i64 q]) ∧ Below w.heap.size w w' := by
  have q1 := ratioOk_bd h1
  have q2 := ratioOk_bd h2
  obtain ⟨c, hc⟩ : ∃ c, ratioCmp n d m e = c := ⟨_, rfl⟩
  have HC := Lib.hid hc
  by_cases k : 0 ≤ c
  · have HP := Lib.hid (show (n, d) = (p, q) by rw [← hp.out]; unfold ratMax; rw [hc, if_pos k])
    clear hc
    go_enter Try.func33, Try.ntmps33
    go_wp2_with (first | (go_at_call 41; (first | (with_reducible refine (calls_ov2 (impl_RatioOk_eq (by assumption) (by omega) (by omega))).mono ?_) | refine (calls_ov (impl_RatioOk_eq (by assumption) (by omega) (by omega))).mono ?_); rintro e w' ⟨rfl, x, rfl⟩) | (go_at_call 40; (first | (with_reducible refine (calls_ov2 (impl_RatioCmp_eq (by assumption) (by omega) (by omega) (by omega) (by omega))).mono ?_) | refine (calls_ov (impl_RatioCmp_eq (by assumption) (by omega) (by omega) (by omega) (by omega))).mono ?_); rintro e w' ⟨rfl, x, rfl⟩))
    refine bodyPost_ret (v := .agg #[.int .i64 n, .int .i64 d]) (by simp [results, Try.results33, go_sem]) rfl ⟨ret_agg2 HP.out, ?_⟩
    (repeat (first | exact bR | refine bO ?_ | refine bA ?_ | refine bS ?_ | refine bD ?_ | refine bN ?_))
  · have HP := Lib.hid (show (m, e) = (p, q) by rw [← hp.out]; unfold ratMax; rw [hc, if_neg k])
    clear hc
    go_enter Try.func33, Try.ntmps33
    go_wp2_with (first | (go_at_call 41; (first | (with_reducible refine (calls_ov2 (impl_RatioOk_eq (by assumption) (by omega) (by omega))).mono ?_) | refine (calls_ov (impl_RatioOk_eq (by assumption) (by omega) (by omega))).mono ?_); rintro e w' ⟨rfl, x, rfl⟩) | (go_at_call 40; (first | (with_reducible refine (calls_ov2 (impl_RatioCmp_eq (by assumption) (by omega) (by omega) (by omega) (by omega))).mono ?_) | refine (calls_ov (impl_RatioCmp_eq (by assumption) (by omega) (by omega) (by omega) (by omega))).mono ?_); rintro e w' ⟨rfl, x, rfl⟩))
    refine bodyPost_ret (v := .agg #[.int .i64 m, .int .i64 e]) (by simp [results, Try.results33, go_sem]) rfl ⟨ret_agg2 HP.out, ?_⟩
    (repeat (first | exact bR | refine bO ?_ | refine bA ?_ | refine bS ?_ | refine bD ?_ | refine bN ?_))
set_option maxHeartbeats 1000000 in
theorem spec_RatioMin_eq {w : World} (h1 : ratioOk n d = true) (h2 : ratioOk m e = true) (hp : Hid (ratMin n d m e = (p, q))) :
    Calls Try.prog 32 #[.agg #[.int .i64 n, .int .i64 d], .agg #[.int .i64 m, .int .i64 e]] w fun e' w' => e' = .returned (.agg #[.int .i64 p, .int .i64 q]) ∧ Below w.heap.size w w' := by
  have q1 := ratioOk_bd h1
  have q2 := ratioOk_bd h2
  obtain ⟨c, hc⟩ : ∃ c, ratioCmp n d m e = c := ⟨_, rfl⟩
  have HC := Lib.hid hc
  by_cases k : c ≤ 0
  · have HP := Lib.hid (show (n, d) = (p, q) by rw [← hp.out]; unfold ratMin; rw [hc, if_pos k])
    clear hc
    go_enter Try.func32, Try.ntmps32
    go_wp2_with (first | (go_at_call 47; (first | (with_reducible refine (calls_ov2 (spec_RatioOk_eq (by assumption) (by omega) (by omega))).mono ?_) | refine (calls_ov (spec_RatioOk_eq (by assumption) (by omega) (by omega))).mono ?_); rintro e w' ⟨rfl, x, rfl⟩) | (go_at_call 23; (first | (with_reducible refine (calls_ov2 (spec_RatioCmp_eq (by assumption) (by omega) (by omega) (by omega) (by omega))).mono ?_) | refine (calls_ov (spec_RatioCmp_eq (by assumption) (by omega) (by omega) (by omega) (by omega))).mono ?_); rintro e w' ⟨rfl, x, rfl⟩))
    refine bodyPost_ret (v := .agg #[.int .i64 n, .int .i64 d]) (by simp [results, Try.results32, go_sem]) rfl ⟨ret_agg2 HP.out, ?_⟩
    (repeat (first | exact bR | refine bO ?_ | refine bA ?_ | refine bS ?_ | refine bD ?_ | refine bN ?_))
  · have HP := Lib.hid (show (m, e) = (p, q) by rw [← hp.out]; unfold ratMin; rw [hc, if_neg k])
    clear hc
    go_enter Try.func32, Try.ntmps32
    go_wp2_with (first | (go_at_call 47; (first | (with_reducible refine (calls_ov2 (spec_RatioOk_eq (by assumption) (by omega) (by omega))).mono ?_) | refine (calls_ov (spec_RatioOk_eq (by assumption) (by omega) (by omega))).mono ?_); rintro e w' ⟨rfl, x, rfl⟩) | (go_at_call 23; (first | (with_reducible refine (calls_ov2 (spec_RatioCmp_eq (by assumption) (by omega) (by omega) (by omega) (by omega))).mono ?_) | refine (calls_ov (spec_RatioCmp_eq (by assumption) (by omega) (by omega) (by omega) (by omega))).mono ?_); rintro e w' ⟨rfl, x, rfl⟩))
    refine bodyPost_ret (v := .agg #[.int .i64 m, .int .i64 e]) (by simp [results, Try.results32, go_sem]) rfl ⟨ret_agg2 HP.out, ?_⟩
    (repeat (first | exact bR | refine bO ?_ | refine bA ?_ | refine bS ?_ | refine bD ?_ | refine bN ?_))
set_option maxHeartbeats 1000000 in
theorem spec_RatioMax_eq {w : World} (h1 : ratioOk n d = true) (h2 : ratioOk m e = true) (hp : Hid (ratMax n d m e = (p, q))) :
    Calls Try.prog 31 #[.agg #[.int .i64 n, .int .i64 d], .agg #[.int .i64 m, .int .i64 e]] w fun e' w' => e' = .returned (.agg #[.int .i64 p, .int .i64 q]) ∧ Below w.heap.size w w' := by
  have q1 := ratioOk_bd h1
  have q2 := ratioOk_bd h2
  obtain ⟨c, hc⟩ : ∃ c, ratioCmp n d m e = c := ⟨_, rfl⟩
  have HC := Lib.hid hc
  by_cases k : 0 ≤ c
  · have HP := Lib.hid (show (n, d) = (p, q) by rw [← hp.out]; unfold ratMax; rw [hc, if_pos k])
    clear hc
    go_enter Try.func31, Try.ntmps31
    go_wp2_with (first | (go_at_call 47; (first | (with_reducible refine (calls_ov2 (spec_RatioOk_eq (by assumption) (by omega) (by omega))).mono ?_) | refine (calls_ov (spec_RatioOk_eq (by assumption) (by omega) (by omega))).mono ?_); rintro e w' ⟨rfl, x, rfl⟩) | (go_at_call 23; (first | (with_reducible refine (calls_ov2 (spec_RatioCmp_eq (by assumption) (by omega) (by omega) (by omega) (by omega))).mono ?_) | refine (calls_ov (spec_RatioCmp_eq (by assumption) (by omega) (by omega) (by omega) (by omega))).mono ?_); rintro e w' ⟨rfl, x, rfl⟩))
    refine bodyPost_ret (v := .agg #[.int .i64 n, .int .i64 d]) (by simp [results, Try.results31, go_sem]) rfl ⟨ret_agg2 HP.out, ?_⟩
    (repeat (first | exact bR | refine bO ?_ | refine bA ?_ | refine bS ?_ | refine bD ?_ | refine bN ?_))
  · have HP := Lib.hid (show (m, e) = (p, q) by rw [← hp.out]; unfold ratMax; rw [hc, if_neg k])
    clear hc
    go_enter Try.func31, Try.ntmps31
    go_wp2_with (first | (go_at_call 47; (first | (with_reducible refine (calls_ov2 (spec_RatioOk_eq (by assumption) (by omega) (by omega))).mono ?_) | refine (calls_ov (spec_RatioOk_eq (by assumption) (by omega) (by omega))).mono ?_); rintro e w' ⟨rfl, x, rfl⟩) | (go_at_call 23; (first | (with_reducible refine (calls_ov2 (spec_RatioCmp_eq (by assumption) (by omega) (by omega) (by omega) (by omega))).mono ?_) | refine (calls_ov (spec_RatioCmp_eq (by assumption) (by omega) (by omega) (by omega) (by omega))).mono ?_); rintro e w' ⟨rfl, x, rfl⟩))
    refine bodyPost_ret (v := .agg #[.int .i64 m, .int .i64 e]) (by simp [results, Try.results31, go_sem]) rfl ⟨ret_agg2 HP.out, ?_⟩
    (repeat (first | exact bR | refine bO ?_ | refine bA ?_ | refine bS ?_ | refine bD ?_ | refine bN ?_))
end
end Go.Proofs.Ytfbfaidblggceaa
