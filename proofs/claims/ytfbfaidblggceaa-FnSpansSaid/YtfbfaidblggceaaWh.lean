/- Contracts of the floor, the ceiling and the whole fractions, and of WholeInputs, in the program and in the reference. Condition: the numbers are ints. -/
import Derived.Test.YtfbfaidblggceaaSpan
import Derived.Test.YtfbfaidblggceaaFl
set_option linter.unusedSimpArgs false
set_option linter.unusedVariables false
set_option linter.unusedSectionVars false
namespace Go.Proofs.Ytfbfaidblggceaa
open Go.RowKit Go.Lib

theorem spanOk_both' {n d m e : Int} (h : spanOk n d m e = true) : ratioOk n d = true ∧ ratioOk m e = true := by
  simp only [spanOk, Bool.and_eq_true] at h; exact h.1
def wholeS (n d m e : Int) : Int := if spanOk n d m e = true ∧ -1000 * d ≤ n ∧ m ≤ 1000 * e then max 0 (m / e - ceilF n d + 1) else 0
theorem cmp_le {n d m e : Int} (h1 : ratioOk n d = true) (h2 : ratioOk m e = true) : ratioCmp n d m e ≤ 0 ↔ n * e ≤ m * d := by
  unfold ratioCmp; rw [if_pos ⟨h1, h2⟩]; unfold cmpF
  split <;> (try split) <;> constructor <;> intro <;> omega
theorem span_in {n d m e : Int} (h : spanOk n d m e = true) : (m ≤ 1000 * e → n ≤ 1000 * d) ∧ (-1000 * d ≤ n → -1000 * e ≤ m) := by
  obtain ⟨h1, h2⟩ := spanOk_both' h
  have q1 := ratioOk_bd h1
  have q2 := ratioOk_bd h2
  have hle : n * e ≤ m * d := (cmp_le h1 h2).1 (by simp only [spanOk, Bool.and_eq_true, decide_eq_true_eq] at h; exact h.2)
  constructor
  · intro k
    have a1 : m * d ≤ 1000 * e * d := Int.mul_le_mul_of_nonneg_right k (by omega)
    have a2 : n * e ≤ (1000 * d) * e := by have : 1000 * e * d = (1000 * d) * e := by grind
                                           omega
    exact Int.le_of_mul_le_mul_right a2 (by omega)
  · intro k
    have a1 : -1000 * d * e ≤ n * e := Int.mul_le_mul_of_nonneg_right k (by omega)
    have a2 : (-1000 * e) * d ≤ m * d := by have : -1000 * d * e = (-1000 * e) * d := by grind
                                            omega
    exact Int.le_of_mul_le_mul_right a2 (by omega)

section
variable {n d : Int}
theorem impl_RatioFloor_any (w : World) (h : ratioOk n d = true) : Calls Try.prog 29 #[.agg #[.int .i64 n, .int .i64 d]] w fun e w' => e = .returned (.int .i64 (n / d)) ∧ Below w.heap.size w w' := by
  have q := ratioOk_bd h
  go_enter Try.func29, Try.ntmps29
  go_wp2_with (first | (go_at_call 41; (first | (with_reducible refine (calls_ov2 (impl_RatioOk_eq h (by omega) (by omega))).mono ?_) | refine (calls_ov (impl_RatioOk_eq h (by omega) (by omega))).mono ?_); rintro e w' ⟨rfl, x, rfl⟩) | (go_at_call 51; refine (floorDiv_any _ _ _ (by omega) (by omega)).mono ?_; rintro e w' ⟨rfl, rfl⟩))
  go_ret
  exact ⟨rfl, (by repeat (first | exact bR | refine bO ?_ | refine bA ?_ | refine bS ?_ | refine bD ?_ | refine bN ?_))⟩
theorem impl_RatioCeil_any (w : World) (h : ratioOk n d = true) : Calls Try.prog 30 #[.agg #[.int .i64 n, .int .i64 d]] w fun e w' => e = .returned (.int .i64 (ceilF n d)) ∧ Below w.heap.size w w' := by
  have q := ratioOk_bd h
  go_enter Try.func30, Try.ntmps30
  go_wp2_with (first | (go_at_call 41; (first | (with_reducible refine (calls_ov2 (impl_RatioOk_eq h (by omega) (by omega))).mono ?_) | refine (calls_ov (impl_RatioOk_eq h (by omega) (by omega))).mono ?_); rintro e w' ⟨rfl, x, rfl⟩) | (go_at_call 52; refine (ceilDiv_any _ _ _ (by omega) (by omega)).mono ?_; rintro e w' ⟨rfl, rfl⟩))
  go_ret
  exact ⟨rfl, (by repeat (first | exact bR | refine bO ?_ | refine bA ?_ | refine bS ?_ | refine bD ?_ | refine bN ?_))⟩
theorem spec_RatioFloor_any (w : World) (h : ratioOk n d = true) : Calls Try.prog 25 #[.agg #[.int .i64 n, .int .i64 d]] w fun e w' => e = .returned (.int .i64 (n / d)) ∧ Below w.heap.size w w' := by
  have q := ratioOk_bd h
  go_enter Try.func25, Try.ntmps25
  go_wp2_with (first | (go_at_call 47; (first | (with_reducible refine (calls_ov2 (spec_RatioOk_eq h (by omega) (by omega))).mono ?_) | refine (calls_ov (spec_RatioOk_eq h (by omega) (by omega))).mono ?_); rintro e w' ⟨rfl, x, rfl⟩) | (go_at_call 48; refine (l02Floor_any _ _ _ (by omega) (by omega)).mono ?_; rintro e w' ⟨rfl, rfl⟩))
  go_ret
  exact ⟨rfl, (by repeat (first | exact bR | refine bO ?_ | refine bA ?_ | refine bS ?_ | refine bD ?_ | refine bN ?_))⟩
theorem spec_RatioCeil_any (w : World) (h : ratioOk n d = true) : Calls Try.prog 26 #[.agg #[.int .i64 n, .int .i64 d]] w fun e w' => e = .returned (.int .i64 (ceilF n d)) ∧ Below w.heap.size w w' := by
  have q := ratioOk_bd h
  have hC := Lib.hid (show -((-n) / d) = ceilF n d from rfl)
  have hB := ceilF_bd (a := n) (b := d) (by omega) (by omega) (by omega)
  have hw1 : IntKind.i64.wrap (-n) = -n := by rw [IntKind.wrap_i64]; omega
  have hw2 : IntKind.i64.wrap (-((-n) / d)) = -((-n) / d) := by rw [IntKind.wrap_i64]; unfold ceilF at hB; omega
  go_enter Try.func26, Try.ntmps26
  go_wp2_with (first | (go_at_call 47; (first | (with_reducible refine (calls_ov2 (spec_RatioOk_eq h (by omega) (by omega))).mono ?_) | refine (calls_ov (spec_RatioOk_eq h (by omega) (by omega))).mono ?_); rintro e w' ⟨rfl, x, rfl⟩) | (go_at_call 48; refine (l02Floor_any _ _ _ (by omega) (by omega)).mono ?_; rintro e w' ⟨rfl, rfl⟩))
  go_ret
  exact ⟨rfl, (by repeat (first | exact bR | refine bO ?_ | refine bA ?_ | refine bS ?_ | refine bD ?_ | refine bN ?_))⟩
theorem isDriven_eq {w : World} {v : Bool} (h : ratioOk n d = true) (hv : inR n (-1000 * d) (1000 * d) = v) :
    Calls Try.prog 28 #[.agg #[.int .i64 n, .int .i64 d]] w fun e w' => e = .returned (.bool v) ∧ Below w.heap.size w w' := by
  have q := ratioOk_bd h
  have hw1 : IntKind.i64.wrap (-1000 * d) = -1000 * d := by rw [IntKind.wrap_i64]; omega
  have hw2 : IntKind.i64.wrap (1000 * d) = 1000 * d := by rw [IntKind.wrap_i64]; omega
  go_enter Try.func28, Try.ntmps28
  go_wp2_with (first | (go_at_call 41; (first | (with_reducible refine (calls_ov2 (impl_RatioOk_eq h (by omega) (by omega))).mono ?_) | refine (calls_ov (impl_RatioOk_eq h (by omega) (by omega))).mono ?_); rintro e w' ⟨rfl, x, rfl⟩) | (go_at_call 50; refine (inRange_eq hv).mono ?_; rintro e w' ⟨rfl, rfl⟩))
  go_ret
  exact ⟨rfl, (by repeat (first | exact bR | refine bO ?_ | refine bA ?_ | refine bS ?_ | refine bD ?_ | refine bN ?_))⟩

theorem whole_ok (hn : -1000000000000000000 ≤ n ∧ n ≤ 1000000000000000000) : ratioOk n 1 = true := by
  have e : gcdS n 1 = 1 := by rw [gcdS_eq _ _ (by omega) (by omega)]; simp
  simp [ratioOk, e, inR]; omega
theorem RatioOf_one {z : Int} (w : World) (hn : -1000000000000000000 ≤ z ∧ z ≤ 1000000000000000000) :
    Calls Try.prog 24 #[.int .i64 z, .int .i64 1] w fun e w' => e = .returned (.agg #[.int .i64 z, .int .i64 1]) ∧ Below w.heap.size w w' := by
  have e : gcdS z 1 = 1 := by rw [gcdS_eq _ _ (by omega) (by omega)]; simp
  have HG := spec_GcdOf_any z 1
  rw [e] at HG
  have hw : IntKind.i64.wrap z = z := by rw [IntKind.wrap_i64]; omega
  have ho := whole_ok hn
  go_enter Try.func24, Try.ntmps24
  go_wp2_with (first | (go_at_call 49; refine (HG _ (by omega) (by omega) (by omega) (by omega)).mono ?_; rintro e w' ⟨rfl, n, rfl⟩) | (go_at_call 47; (first | (with_reducible refine (calls_ov2 (spec_RatioOk_eq ho (by omega) (by omega))).mono ?_) | refine (calls_ov (spec_RatioOk_eq ho (by omega) (by omega))).mono ?_); rintro e w' ⟨rfl, x, rfl⟩))
  go_region
  all_goals go_wp2_with (first | (go_at_call 47; (first | (with_reducible refine (calls_ov2 (spec_RatioOk_eq ho (by omega) (by omega))).mono ?_) | refine (calls_ov (spec_RatioOk_eq ho (by omega) (by omega))).mono ?_); rintro e w' ⟨rfl, x, rfl⟩))
  refine bodyPost_ret (v := .agg #[.int .i64 z, .int .i64 1]) (by simp [results, Try.results24, go_sem]) rfl ⟨rfl, ?_⟩
  (repeat (first | exact bR | refine bO ?_ | refine bA ?_ | refine bS ?_ | refine bD ?_ | refine bN ?_))
end
end Go.Proofs.Ytfbfaidblggceaa
