/- Several texts in one: Span, Wh. Each says its own conditions. -/
import Derived.Test.YtabmfaamadbefaaGreatRmo
import Derived.Test.YtabmfaamadbefaaGreatFl
/- Contracts of SpanOk and InSpan in the program and in the reference. Condition: the numbers are ints. -/
set_option linter.unusedSimpArgs false
set_option linter.unusedVariables false
set_option linter.unusedSectionVars false
namespace Go.Proofs.YtabmfaamadbefaaGreat
open Go.RowKit Go.Lib
theorem impl_RatioCmp_eq {n d m e : Int} {w : World} {c : Int} (h : Hid (ratioCmp n d m e = c)) (hn : -9223372036854775808 ≤ n ∧ n ≤ 9223372036854775807) (hd : -9223372036854775808 ≤ d ∧ d ≤ 9223372036854775807) (hm : -9223372036854775808 ≤ m ∧ m ≤ 9223372036854775807) (he : -9223372036854775808 ≤ e ∧ e ≤ 9223372036854775807) :
    Calls Tryz.prog 35 #[.agg #[.int .i64 n, .int .i64 d], .agg #[.int .i64 m, .int .i64 e]] w fun e' w' => e' = .returned (.int .i64 c) ∧ Below w.heap.size w w' := by
  obtain rfl := h.out; exact impl_RatioCmp_any n d m e w hn hd hm he
section
variable {n d m e u v : Int}
set_option maxHeartbeats 8000000 in
theorem impl_InSpan_any (w : World) (hn : -9223372036854775808 ≤ n ∧ n ≤ 9223372036854775807) (hd : -9223372036854775808 ≤ d ∧ d ≤ 9223372036854775807) (hm : -9223372036854775808 ≤ m ∧ m ≤ 9223372036854775807) (he : -9223372036854775808 ≤ e ∧ e ≤ 9223372036854775807)
    (hu : -9223372036854775808 ≤ u ∧ u ≤ 9223372036854775807) (hv : -9223372036854775808 ≤ v ∧ v ≤ 9223372036854775807) :
    Calls Tryz.prog 37 #[.agg #[.int .i64 n, .int .i64 d, .int .i64 m, .int .i64 e], .agg #[.int .i64 u, .int .i64 v]] w fun e' w' => e' = .returned (.bool (inSpan n d m e u v)) ∧ Below w.heap.size w w' := by
  have HS := Lib.hid (show (spanOk n d m e && ratioOk u v && decide (ratioCmp n d u v ≤ 0) && decide (ratioCmp u v m e ≤ 0)) = inSpan n d m e u v from rfl)
  obtain ⟨c, hc⟩ : ∃ c, ratioCmp n d u v = c := ⟨_, rfl⟩
  obtain ⟨c', hc'⟩ : ∃ c', ratioCmp u v m e = c' := ⟨_, rfl⟩
  have HC := Lib.hid hc
  have HC' := Lib.hid hc'
  clear hc hc'
  rcases chain4 (spanOk n d m e) (ratioOk u v) (decide (c ≤ 0)) (decide (c' ≤ 0)) with h1 | ⟨h1, h2⟩ | ⟨h1, h2, h3⟩ | ⟨h1, h2, h3, h4⟩ | ⟨h1, h2, h3, h4⟩
  all_goals
    go_enter Tryz.func37, Tryz.ntmps37
    go_wp2_with (first | (go_at_call 34; (first | (with_reducible refine (calls_ov2 (impl_SpanOk_eq (by assumption) (by omega) (by omega) (by omega) (by omega))).mono ?_) | refine (calls_ov (impl_SpanOk_eq (by assumption) (by omega) (by omega) (by omega) (by omega))).mono ?_); rintro e w' ⟨rfl, x, rfl⟩) | (go_at_call 64; (first | (with_reducible refine (calls_ov2 (impl_RatioOk_eq (by assumption) (by omega) (by omega))).mono ?_) | refine (calls_ov (impl_RatioOk_eq (by assumption) (by omega) (by omega))).mono ?_); rintro e w' ⟨rfl, x, rfl⟩) | (go_at_call 35; (first | (with_reducible refine (calls_ov2 (impl_RatioCmp_eq (by assumption) (by omega) (by omega) (by omega) (by omega))).mono ?_) | refine (calls_ov (impl_RatioCmp_eq (by assumption) (by omega) (by omega) (by omega) (by omega))).mono ?_); rintro e w' ⟨rfl, x, rfl⟩))
    go_ret
    refine ⟨ret_bool ?_, (by repeat (first | exact bR | refine bO ?_ | refine bA ?_ | refine bS ?_ | refine bD ?_ | refine bN ?_))⟩
    rw [← HS.out, HC.out, HC'.out, h1]
    (try rw [h2])
    (try rw [h3])
    (try rw [h4])
    first
    | rfl
    | (simp only [Bool.true_and, Bool.false_and, Bool.and_false]; done)
end
end Go.Proofs.YtabmfaamadbefaaGreat
/- Contracts of the floor, the ceiling and the whole fractions, and of WholeInputs, in the program and in the reference. Condition: the numbers are ints. -/
set_option linter.unusedSimpArgs false
set_option linter.unusedVariables false
set_option linter.unusedSectionVars false
namespace Go.Proofs.YtabmfaamadbefaaGreat
open Go.RowKit Go.Lib
theorem spanOk_both' {n d m e : Int} (h : spanOk n d m e = true) : ratioOk n d = true ∧ ratioOk m e = true := by
  simp only [spanOk, Bool.and_eq_true] at h; exact h.1
def wholeS (n d m e : Int) : Int := if spanOk n d m e = true ∧ -1000 * d ≤ n ∧ m ≤ 1000 * e then max 0 (m / e - ceilF n d + 1) else 0
theorem cmp_le {n d m e : Int} (h1 : ratioOk n d = true) (h2 : ratioOk m e = true) : ratioCmp n d m e ≤ 0 ↔ n * e ≤ m * d := by
  unfold ratioCmp; rw [if_pos ⟨h1, h2⟩]; unfold cmpF
  split <;> (try split) <;> constructor <;> intro <;> omega
theorem span_in {n d m e : Int} (h : spanOk n d m e = true) : (m ≤ 1000 * e → n ≤ 1000 * d) ∧ (-1000 * d ≤ n → -1000 * e ≤ m) := by
  obtain ⟨h1, h2⟩ := spanOk_both' h
  have q1 := ratioOk_bd h1
  have q2 := ratioOk_bd h2
  have hle : n * e ≤ m * d := (cmp_le h1 h2).1 (by simp only [spanOk, Bool.and_eq_true, decide_eq_true_eq] at h; exact h.2)
  constructor
  · intro k
    have a1 : m * d ≤ 1000 * e * d := Int.mul_le_mul_of_nonneg_right k (by omega)
    have a2 : n * e ≤ (1000 * d) * e := by have : 1000 * e * d = (1000 * d) * e := by grind
                                           omega
    exact Int.le_of_mul_le_mul_right a2 (by omega)
  · intro k
    have a1 : -1000 * d * e ≤ n * e := Int.mul_le_mul_of_nonneg_right k (by omega)
    have a2 : (-1000 * e) * d ≤ m * d := by have : -1000 * d * e = (-1000 * e) * d := by grind
                                            omega
    exact Int.le_of_mul_le_mul_right a2 (by omega)

section
variable {n d : Int}
theorem impl_RatioFloor_any (w : World) (h : ratioOk n d = true) : Calls Tryz.prog 78 #[.agg #[.int .i64 n, .int .i64 d]] w fun e w' => e = .returned (.int .i64 (n / d)) ∧ Below w.heap.size w w' := by
  have q := ratioOk_bd h
  go_enter Tryz.func78, Tryz.ntmps78
  go_wp2_with (first | (go_at_call 64; (first | (with_reducible refine (calls_ov2 (impl_RatioOk_eq h (by omega) (by omega))).mono ?_) | refine (calls_ov (impl_RatioOk_eq h (by omega) (by omega))).mono ?_); rintro e w' ⟨rfl, x, rfl⟩) | (go_at_call 111; refine (floorDiv_any _ _ _ (by omega) (by omega)).mono ?_; rintro e w' ⟨rfl, rfl⟩))
  go_ret
  exact ⟨rfl, (by repeat (first | exact bR | refine bO ?_ | refine bA ?_ | refine bS ?_ | refine bD ?_ | refine bN ?_))⟩
theorem impl_RatioCeil_any (w : World) (h : ratioOk n d = true) : Calls Tryz.prog 77 #[.agg #[.int .i64 n, .int .i64 d]] w fun e w' => e = .returned (.int .i64 (ceilF n d)) ∧ Below w.heap.size w w' := by
  have q := ratioOk_bd h
  go_enter Tryz.func77, Tryz.ntmps77
  go_wp2_with (first | (go_at_call 64; (first | (with_reducible refine (calls_ov2 (impl_RatioOk_eq h (by omega) (by omega))).mono ?_) | refine (calls_ov (impl_RatioOk_eq h (by omega) (by omega))).mono ?_); rintro e w' ⟨rfl, x, rfl⟩) | (go_at_call 110; refine (ceilDiv_any _ _ _ (by omega) (by omega)).mono ?_; rintro e w' ⟨rfl, rfl⟩))
  go_ret
  exact ⟨rfl, (by repeat (first | exact bR | refine bO ?_ | refine bA ?_ | refine bS ?_ | refine bD ?_ | refine bN ?_))⟩
theorem isDriven_eq {w : World} {v : Bool} (h : ratioOk n d = true) (hv : inR n (-1000 * d) (1000 * d) = v) :
    Calls Tryz.prog 80 #[.agg #[.int .i64 n, .int .i64 d]] w fun e w' => e = .returned (.bool v) ∧ Below w.heap.size w w' := by
  have q := ratioOk_bd h
  have hw1 : IntKind.i64.wrap (-1000 * d) = -1000 * d := by rw [IntKind.wrap_i64]; omega
  have hw2 : IntKind.i64.wrap (1000 * d) = 1000 * d := by rw [IntKind.wrap_i64]; omega
  go_enter Tryz.func80, Tryz.ntmps80
  go_wp2_with (first | (go_at_call 64; (first | (with_reducible refine (calls_ov2 (impl_RatioOk_eq h (by omega) (by omega))).mono ?_) | refine (calls_ov (impl_RatioOk_eq h (by omega) (by omega))).mono ?_); rintro e w' ⟨rfl, x, rfl⟩) | (go_at_call 60; refine (inRange_eq hv).mono ?_; rintro e w' ⟨rfl, rfl⟩))
  go_ret
  exact ⟨rfl, (by repeat (first | exact bR | refine bO ?_ | refine bA ?_ | refine bS ?_ | refine bD ?_ | refine bN ?_))⟩

theorem whole_ok (hn : -1000000000000000000 ≤ n ∧ n ≤ 1000000000000000000) : ratioOk n 1 = true := by
  have e : gcdS n 1 = 1 := by rw [gcdS_eq _ _ (by omega) (by omega)]; simp
  simp [ratioOk, e, inR]; omega
end
end Go.Proofs.YtabmfaamadbefaaGreat