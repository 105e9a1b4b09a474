/- Contracts of the functions on half planes: the program's and the reference's. Condition: where numbers are multiplied, the half planes are valid. -/
import Derived.Test.YtnenlgaafiifpaaA
import Derived.Test.YtnenlgaafiifpaaGeoF
set_option linter.unusedSimpArgs false
set_option linter.unusedVariables false
set_option linter.unusedSectionVars false
namespace Go.Proofs.Ytnenlgaafiifpaa
open Go.RowKit

def halfOk (h : H3) : Bool := inR h.a (-50000) 50000 && inR h.b (-50000) 50000 && inR h.c (-100000000) 100000000 && !(decide (h.a = 0) && decide (h.b = 0)) && decide (gcdL [h.a, h.b, h.c] = 1)
theorem halfOk_iff (h : H3) : halfOk h = true ↔ HOk h := by
  simp only [halfOk, inR, Bool.and_eq_true, decide_eq_true_eq, Bool.not_eq_true', Bool.and_eq_false_iff, decide_eq_false_iff_not]
  constructor
  · rintro ⟨⟨⟨⟨h1, h2⟩, h3⟩, h4⟩, h5⟩; exact ⟨h1, h2, h3, by unfold NZ; omega, h5⟩
  · intro k; exact ⟨⟨⟨⟨k.ba, k.bb⟩, k.bc⟩, by have := k.nz; unfold NZ at this; omega⟩, k.prim⟩

theorem gcd3_any (a b c : Int) (B : Nat) (w : World) (hB : B = w.heap.size) (ha : -9223372036854775808 ≤ a ∧ a ≤ 9223372036854775807) (hb : -9223372036854775808 ≤ b ∧ b ≤ 9223372036854775807)
    (hc : -9223372036854775808 ≤ c ∧ c ≤ 9223372036854775807) :
    Calls Try.prog 116 #[.slice (some ⟨B, 0, none⟩) 3 3] (w.alloc (.cells #[.int .i64 a, .int .i64 b, .int .i64 c] 3)) fun e w' =>
      e = .returned (.int .u64 (gcdL [a, b, c])) ∧ ∃ n, w' = (w.alloc (.cells #[.int .i64 a, .int .i64 b, .int .i64 c] 3)).drewN n := by
  subst hB
  refine gcdOfAll_any [a, b, c] w.heap.size 3 _ (by simp) ?_ ?_
  · intro x hx
    simp at hx
    rcases hx with rfl | rfl | rfl <;> assumption
  · intro k hk
    match k, hk with
    | 0, _ => simp [go_sem]
    | 1, _ => simp [go_sem]
    | 2, _ => simp [go_sem]

theorem isCoef_eq {n : Int} {v : Bool} {w : World} (h : inR n (-50000) 50000 = v) : Calls Try.prog 97 #[.int .i64 n] w fun e w' => e = .returned (.bool v) ∧ w = w' := by
  go_enter Try.func97, Try.ntmps97
  go_wp2_with ((go_at_call 115; refine (inRange_eq h).mono ?_; rintro e w' ⟨rfl, rfl⟩))
  go_ret
  exact ⟨rfl, rfl⟩

theorem impl_HalfOk_any (h : H3) (w : World) :
    Calls Try.prog 71 #[.agg #[.int .i64 h.a, .int .i64 h.b, .int .i64 h.c]] w fun e w' => e = .returned (.bool (halfOk h)) ∧ Below w.heap.size w w' := by
  have HS := Lib.hid (show (inR h.a (-50000) 50000 && inR h.b (-50000) 50000 && inR h.c (-100000000) 100000000 && !(decide (h.a = 0) && decide (h.b = 0)) && decide (gcdL [h.a, h.b, h.c] = 1)) = halfOk h from rfl)
  rcases chain3 (inR h.a (-50000) 50000) (inR h.b (-50000) 50000) (inR h.c (-100000000) 100000000) with h1 | ⟨h1, h2⟩ | ⟨h1, h2, h3⟩ | ⟨h1, h2, h3⟩
  · go_enter Try.func71, Try.ntmps71
    go_wp2_with (first | (go_at_call 97; refine (isCoef_eq h1).mono ?_; rintro e w' ⟨rfl, rfl⟩))
    go_ret
    exact ⟨ret_bool (by rw [← HS.out]; (try rw [h1]); (try rw [h2]); (try rw [h3]); simp only [Bool.true_and, Bool.false_and]), (by repeat (first | exact Below.refl _ _ | refine below_ov _ _ ?_ (by first | omega | (simp [ov_size] <;> omega)) | refine Below.alloc ?_ (by first | omega | (simp [ov_size] <;> omega)) _ | refine Below.setCell ?_ (by first | omega | (simp [ov_size] <;> omega)) _ | refine Below.drew ?_ | refine below_drewN ?_ _))⟩
  · go_enter Try.func71, Try.ntmps71
    go_wp2_with (first | (go_at_call 97; refine (isCoef_eq (by assumption)).mono ?_; rintro e w' ⟨rfl, rfl⟩))
    go_ret
    exact ⟨ret_bool (by rw [← HS.out]; (try rw [h1]); (try rw [h2]); (try rw [h3]); simp only [Bool.true_and, Bool.false_and]), (by repeat (first | exact Below.refl _ _ | refine below_ov _ _ ?_ (by first | omega | (simp [ov_size] <;> omega)) | refine Below.alloc ?_ (by first | omega | (simp [ov_size] <;> omega)) _ | refine Below.setCell ?_ (by first | omega | (simp [ov_size] <;> omega)) _ | refine Below.drew ?_ | refine below_drewN ?_ _))⟩
  · go_enter Try.func71, Try.ntmps71
    go_wp2_with (first | (go_at_call 97; refine (isCoef_eq (by assumption)).mono ?_; rintro e w' ⟨rfl, rfl⟩) | (go_at_call 115; refine (inRange_eq h3).mono ?_; rintro e w' ⟨rfl, rfl⟩))
    go_ret
    exact ⟨ret_bool (by rw [← HS.out]; (try rw [h1]); (try rw [h2]); (try rw [h3]); simp only [Bool.true_and, Bool.false_and]), (by repeat (first | exact Below.refl _ _ | refine below_ov _ _ ?_ (by first | omega | (simp [ov_size] <;> omega)) | refine Below.alloc ?_ (by first | omega | (simp [ov_size] <;> omega)) _ | refine Below.setCell ?_ (by first | omega | (simp [ov_size] <;> omega)) _ | refine Below.drew ?_ | refine below_drewN ?_ _))⟩
  · have q1 := inR_iff.1 h1
    have q2 := inR_iff.1 h2
    have q3 := inR_iff.1 h3
    by_cases za : h.a = 0
    · by_cases zb : h.b = 0
      · have ea : (h.a == 0) = true := by simp [za]
        have eb : (h.b == 0) = true := by simp [zb]
        have ZA := Lib.hid za
        have ZB := Lib.hid zb
        clear za zb
        go_enter Try.func71, Try.ntmps71
        go_wp2_with (first | (go_at_call 97; refine (isCoef_eq (by assumption)).mono ?_; rintro e w' ⟨rfl, rfl⟩) | (go_at_call 115; refine (inRange_eq h3).mono ?_; rintro e w' ⟨rfl, rfl⟩))
        go_ret
        exact ⟨ret_bool (by rw [← HS.out, ZA.out, ZB.out]; simp only [decide_true, Bool.and_self, Bool.not_true, Bool.and_false, Bool.false_and]), (by repeat (first | exact Below.refl _ _ | refine below_ov _ _ ?_ (by first | omega | (simp [ov_size] <;> omega)) | refine Below.alloc ?_ (by first | omega | (simp [ov_size] <;> omega)) _ | refine Below.setCell ?_ (by first | omega | (simp [ov_size] <;> omega)) _ | refine Below.drew ?_ | refine below_drewN ?_ _))⟩
      · have ea : (h.a == 0) = true := by simp [za]
        have eb : (h.b == 0) = false := by simp [zb]
        have ZA := Lib.hid za
        clear za
        go_enter Try.func71, Try.ntmps71
        go_wp2_with (first | (go_at_call 97; refine (isCoef_eq (by assumption)).mono ?_; rintro e w' ⟨rfl, rfl⟩) | (go_at_call 115; refine (inRange_eq h3).mono ?_; rintro e w' ⟨rfl, rfl⟩) | (go_at_call 116; refine (gcd3_any _ _ _ _ _ (by simp) (by omega) (by omega) (by omega)).mono ?_; rintro e w' ⟨rfl, n, rfl⟩))
        go_ret
        exact ⟨ret_bool (by rw [← HS.out]; rw [h1, h2, h3, nat_beq1, decide_eq_false zb]; simp only [Bool.true_and, Bool.and_false, Bool.not_false]), (by repeat (first | exact Below.refl _ _ | refine below_ov _ _ ?_ (by first | omega | (simp [ov_size] <;> omega)) | refine Below.alloc ?_ (by first | omega | (simp [ov_size] <;> omega)) _ | refine Below.setCell ?_ (by first | omega | (simp [ov_size] <;> omega)) _ | refine Below.drew ?_ | refine below_drewN ?_ _))⟩
    · have ea : (h.a == 0) = false := by simp [za]
      go_enter Try.func71, Try.ntmps71
      go_wp2_with (first | (go_at_call 97; refine (isCoef_eq (by assumption)).mono ?_; rintro e w' ⟨rfl, rfl⟩) | (go_at_call 115; refine (inRange_eq h3).mono ?_; rintro e w' ⟨rfl, rfl⟩) | (go_at_call 116; refine (gcd3_any _ _ _ _ _ (by simp) (by omega) (by omega) (by omega)).mono ?_; rintro e w' ⟨rfl, n, rfl⟩))
      go_ret
      exact ⟨ret_bool (by rw [← HS.out]; rw [h1, h2, h3, nat_beq1, decide_eq_false za]; simp only [Bool.true_and, Bool.false_and, Bool.not_false]), (by repeat (first | exact Below.refl _ _ | refine below_ov _ _ ?_ (by first | omega | (simp [ov_size] <;> omega)) | refine Below.alloc ?_ (by first | omega | (simp [ov_size] <;> omega)) _ | refine Below.setCell ?_ (by first | omega | (simp [ov_size] <;> omega)) _ | refine Below.drew ?_ | refine below_drewN ?_ _))⟩

theorem spec_HalfOk_any (h : H3) (w : World) :
    Calls Try.prog 68 #[.agg #[.int .i64 h.a, .int .i64 h.b, .int .i64 h.c]] w fun e w' => e = .returned (.bool (halfOk h)) ∧ Below w.heap.size w w' := by
  have HS := Lib.hid (show (inR h.a (-50000) 50000 && inR h.b (-50000) 50000 && inR h.c (-100000000) 100000000 && !(decide (h.a = 0) && decide (h.b = 0)) && decide (gcdL [h.a, h.b, h.c] = 1)) = halfOk h from rfl)
  rcases chain2 (inR h.a (-50000) 50000) (inR h.b (-50000) 50000) with h1 | ⟨h1, h2⟩ | ⟨h1, h2⟩
  · go_enter Try.func68, Try.ntmps68
    go_wp2
    ((first | (with_reducible refine wp_region_calm2 (by kernel_rfl) (by kernel_rfl) ?_) | refine wp_region_calm (by kernel_rfl) (by kernel_rfl) ?_); (repeat (go_big_quiet_step (first | (go_at_call 80; exact calm_same (l01In_eq h1))))); refine wpQuiet_nil ?_; rintro _ ⟨y, rfl⟩)
    go_wp2
    go_ret
    exact ⟨ret_bool (by rw [← HS.out]; (try rw [h1]); (try rw [h2]); (try rw [h3]); simp only [Bool.true_and, Bool.false_and]), (by repeat (first | exact Below.refl _ _ | refine below_ov _ _ ?_ (by first | omega | (simp [ov_size] <;> omega)) | refine Below.alloc ?_ (by first | omega | (simp [ov_size] <;> omega)) _ | refine Below.setCell ?_ (by first | omega | (simp [ov_size] <;> omega)) _ | refine Below.drew ?_ | refine below_drewN ?_ _))⟩
  · go_enter Try.func68, Try.ntmps68
    go_wp2
    ((first | (with_reducible refine wp_region_calm2 (by kernel_rfl) (by kernel_rfl) ?_) | refine wp_region_calm (by kernel_rfl) (by kernel_rfl) ?_); (repeat (go_big_quiet_step (first | (go_at_call 80; exact calm_same (l01In_eq (by assumption)))))); refine wpQuiet_nil ?_; rintro _ ⟨y, rfl⟩)
    go_wp2
    go_ret
    exact ⟨ret_bool (by rw [← HS.out]; (try rw [h1]); (try rw [h2]); (try rw [h3]); simp only [Bool.true_and, Bool.false_and]), (by repeat (first | exact Below.refl _ _ | refine below_ov _ _ ?_ (by first | omega | (simp [ov_size] <;> omega)) | refine Below.alloc ?_ (by first | omega | (simp [ov_size] <;> omega)) _ | refine Below.setCell ?_ (by first | omega | (simp [ov_size] <;> omega)) _ | refine Below.drew ?_ | refine below_drewN ?_ _))⟩
  · have q1 := inR_iff.1 h1
    have q2 := inR_iff.1 h2
    have hg1 := gcdS_bd h.a h.b (by omega) (by omega)
    have fin : inR h.c (-100000000) 100000000 = true → gcdS (gcdS h.a h.b) h.c = (gcdL [h.a, h.b, h.c] : Int) := fun h3 => by
      have q3 := inR_iff.1 h3
      exact gcdS3 _ _ _ (by omega) (by omega) (by omega)
    have FIN := Lib.hid fin
    clear fin
    by_cases za : h.a = 0
    · by_cases zb : h.b = 0
      · have ea : (h.a != 0) = false := by simp [za]
        have eb : (h.b != 0) = false := by simp [zb]
        have ZA := Lib.hid za
        have ZB := Lib.hid zb
        clear za zb
        go_enter Try.func68, Try.ntmps68
        go_wp2
        ((first | (with_reducible refine wp_region_calm2 (by kernel_rfl) (by kernel_rfl) ?_) | refine wp_region_calm (by kernel_rfl) (by kernel_rfl) ?_); (repeat (go_big_quiet_step (first | (go_at_call 80; exact calm_same (l01In_eq (by assumption)))))); refine wpQuiet_nil ?_; rintro _ ⟨y, rfl⟩)
        go_wp2
        go_ret
        exact ⟨ret_bool (by rw [← HS.out, ZA.out, ZB.out]; simp only [decide_true, Bool.and_self, Bool.not_true, Bool.and_false, Bool.false_and]), (by repeat (first | exact Below.refl _ _ | refine below_ov _ _ ?_ (by first | omega | (simp [ov_size] <;> omega)) | refine Below.alloc ?_ (by first | omega | (simp [ov_size] <;> omega)) _ | refine Below.setCell ?_ (by first | omega | (simp [ov_size] <;> omega)) _ | refine Below.drew ?_ | refine below_drewN ?_ _))⟩
      · have ea : (h.a != 0) = false := by simp [za]
        have eb : (h.b != 0) = true := by simp [zb]
        have ZA := Lib.hid za
        clear za
        cases h3 : inR h.c (-100000000) 100000000 with
        | false =>
          go_enter Try.func68, Try.ntmps68
          go_wp2
          ((first | (with_reducible refine wp_region_calm2 (by kernel_rfl) (by kernel_rfl) ?_) | refine wp_region_calm (by kernel_rfl) (by kernel_rfl) ?_); (repeat (go_big_quiet_step (first | (go_at_call 80; exact calm_same (l01In_eq (by assumption)))))); refine wpQuiet_nil ?_; rintro _ ⟨y, rfl⟩)
          go_wp2
          go_ret
          exact ⟨ret_bool (by rw [← HS.out, h3]; simp only [Bool.and_false, Bool.false_and]), (by repeat (first | exact Below.refl _ _ | refine below_ov _ _ ?_ (by first | omega | (simp [ov_size] <;> omega)) | refine Below.alloc ?_ (by first | omega | (simp [ov_size] <;> omega)) _ | refine Below.setCell ?_ (by first | omega | (simp [ov_size] <;> omega)) _ | refine Below.drew ?_ | refine below_drewN ?_ _))⟩
        | true =>
          have q3 := inR_iff.1 h3
          go_enter Try.func68, Try.ntmps68
          go_wp2
          ((first | (with_reducible refine wp_region_calm2 (by kernel_rfl) (by kernel_rfl) ?_) | refine wp_region_calm (by kernel_rfl) (by kernel_rfl) ?_); (repeat (go_big_quiet_step (first | (go_at_call 80; exact calm_same (l01In_eq (by assumption))) | (go_at_call 111; exact calm_drewN (spec_GcdOf_any _ _ _ (by omega) (by omega) (by omega) (by omega)))))); refine wpQuiet_nil ?_; rintro _ ⟨y, rfl⟩)
          go_wp2
          go_ret
          exact ⟨ret_bool (by rw [← HS.out, FIN.out h3]; rw [h1, h2, h3, nat_beq1, decide_eq_false zb]; simp only [Bool.true_and, Bool.and_false, Bool.not_false]), (by repeat (first | exact Below.refl _ _ | refine below_ov _ _ ?_ (by first | omega | (simp [ov_size] <;> omega)) | refine Below.alloc ?_ (by first | omega | (simp [ov_size] <;> omega)) _ | refine Below.setCell ?_ (by first | omega | (simp [ov_size] <;> omega)) _ | refine Below.drew ?_ | refine below_drewN ?_ _))⟩
    · have ea : (h.a != 0) = true := by simp [za]
      cases h3 : inR h.c (-100000000) 100000000 with
      | false =>
        go_enter Try.func68, Try.ntmps68
        go_wp2
        ((first | (with_reducible refine wp_region_calm2 (by kernel_rfl) (by kernel_rfl) ?_) | refine wp_region_calm (by kernel_rfl) (by kernel_rfl) ?_); (repeat (go_big_quiet_step (first | (go_at_call 80; exact calm_same (l01In_eq (by assumption)))))); refine wpQuiet_nil ?_; rintro _ ⟨y, rfl⟩)
        go_wp2
        go_ret
        exact ⟨ret_bool (by rw [← HS.out, h3]; simp only [Bool.and_false, Bool.false_and]), (by repeat (first | exact Below.refl _ _ | refine below_ov _ _ ?_ (by first | omega | (simp [ov_size] <;> omega)) | refine Below.alloc ?_ (by first | omega | (simp [ov_size] <;> omega)) _ | refine Below.setCell ?_ (by first | omega | (simp [ov_size] <;> omega)) _ | refine Below.drew ?_ | refine below_drewN ?_ _))⟩
      | true =>
        have q3 := inR_iff.1 h3
        go_enter Try.func68, Try.ntmps68
        go_wp2
        ((first | (with_reducible refine wp_region_calm2 (by kernel_rfl) (by kernel_rfl) ?_) | refine wp_region_calm (by kernel_rfl) (by kernel_rfl) ?_); (repeat (go_big_quiet_step (first | (go_at_call 80; exact calm_same (l01In_eq (by assumption))) | (go_at_call 111; exact calm_drewN (spec_GcdOf_any _ _ _ (by omega) (by omega) (by omega) (by omega)))))); refine wpQuiet_nil ?_; rintro _ ⟨y, rfl⟩)
        go_wp2
        go_ret
        exact ⟨ret_bool (by rw [← HS.out, FIN.out h3]; rw [h1, h2, h3, nat_beq1, decide_eq_false za]; simp only [Bool.true_and, Bool.false_and, Bool.not_false]), (by repeat (first | exact Below.refl _ _ | refine below_ov _ _ ?_ (by first | omega | (simp [ov_size] <;> omega)) | refine Below.alloc ?_ (by first | omega | (simp [ov_size] <;> omega)) _ | refine Below.setCell ?_ (by first | omega | (simp [ov_size] <;> omega)) _ | refine Below.drew ?_ | refine below_drewN ?_ _))⟩

theorem impl_HalfOk_true {h : H3} {w : World} (k : HOk h) : Calls Try.prog 71 #[.agg #[.int .i64 h.a, .int .i64 h.b, .int .i64 h.c]] w fun e w' => e = .returned (.bool true) ∧ Below w.heap.size w w' := by
  have := impl_HalfOk_any h w; rw [(halfOk_iff h).2 k] at this; exact this
theorem spec_HalfOk_true {h : H3} {w : World} (k : HOk h) : Calls Try.prog 68 #[.agg #[.int .i64 h.a, .int .i64 h.b, .int .i64 h.c]] w fun e w' => e = .returned (.bool true) ∧ Below w.heap.size w w' := by
  have := spec_HalfOk_any h w; rw [(halfOk_iff h).2 k] at this; exact this
theorem impl_HalfOk_eq {h : H3} {v : Bool} {w : World} (k : halfOk h = v) : Calls Try.prog 71 #[.agg #[.int .i64 h.a, .int .i64 h.b, .int .i64 h.c]] w fun e w' => e = .returned (.bool v) ∧ Below w.heap.size w w' := by
  subst k; exact impl_HalfOk_any h w
theorem spec_HalfOk_eq {h : H3} {v : Bool} {w : World} (k : halfOk h = v) : Calls Try.prog 68 #[.agg #[.int .i64 h.a, .int .i64 h.b, .int .i64 h.c]] w fun e w' => e = .returned (.bool v) ∧ Below w.heap.size w w' := by
  subst k; exact spec_HalfOk_any h w
end Go.Proofs.Ytnenlgaafiifpaa
