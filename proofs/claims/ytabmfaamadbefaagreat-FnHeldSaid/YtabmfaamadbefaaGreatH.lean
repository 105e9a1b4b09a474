/- Contracts of the functions on half planes: the program's and the reference's. Condition: where numbers are multiplied, the half planes are valid. Contracts of the functions on pairs of half planes: directions, angles, the tighter one. Condition: the half planes are valid. -/
import Derived.Test.YtabmfaamadbefaaGreatA
import Derived.Test.YtabmfaamadbefaaGreatGeo
set_option linter.unusedSimpArgs false
set_option linter.unusedVariables false
set_option linter.unusedSectionVars false
namespace Go.Proofs.YtabmfaamadbefaaGreat
open Go.RowKit
def halfOk (h : H3) : Bool := inR h.a (-50000) 50000 && inR h.b (-50000) 50000 && inR h.c (-100000000) 100000000 && !(decide (h.a = 0) && decide (h.b = 0)) && decide (gcdL [h.a, h.b, h.c] = 1)
theorem halfOk_iff (h : H3) : halfOk h = true ↔ HOk h := by
  simp only [halfOk, inR, Bool.and_eq_true, decide_eq_true_eq, Bool.not_eq_true', Bool.and_eq_false_iff, decide_eq_false_iff_not]
  constructor
  · rintro ⟨⟨⟨⟨h1, h2⟩, h3⟩, h4⟩, h5⟩; exact ⟨h1, h2, h3, by unfold NZ; omega, h5⟩
  · intro k; exact ⟨⟨⟨⟨k.ba, k.bb⟩, k.bc⟩, by have := k.nz; unfold NZ at this; omega⟩, k.prim⟩

theorem gcd3_any (a b c : Int) (B : Nat) (w : World) (hB : B = w.heap.size) (ha : -9223372036854775808 ≤ a ∧ a ≤ 9223372036854775807) (hb : -9223372036854775808 ≤ b ∧ b ≤ 9223372036854775807)
    (hc : -9223372036854775808 ≤ c ∧ c ≤ 9223372036854775807) :
    Calls Tryz.prog 70 #[.slice (some ⟨B, 0, none⟩) 3 3] (w.alloc (.cells #[.int .i64 a, .int .i64 b, .int .i64 c] 3)) fun e w' =>
      e = .returned (.int .u64 (gcdL [a, b, c])) ∧ ∃ n, w' = (w.alloc (.cells #[.int .i64 a, .int .i64 b, .int .i64 c] 3)).drewN n := by
  subst hB
  refine gcdOfAll_any [a, b, c] w.heap.size 3 _ (by simp) ?_ ?_
  · intro x hx
    simp at hx
    rcases hx with rfl | rfl | rfl <;> assumption
  · intro k hk
    match k, hk with
    | 0, _ => simp [go_sem]
    | 1, _ => simp [go_sem]
    | 2, _ => simp [go_sem]

theorem isCoef_eq {n : Int} {v : Bool} {w : World} (h : inR n (-50000) 50000 = v) : Calls Tryz.prog 91 #[.int .i64 n] w fun e w' => e = .returned (.bool v) ∧ w = w' := by
  go_enter Tryz.func91, Tryz.ntmps91
  go_wp2_with ((go_at_call 60; refine (inRange_eq h).mono ?_; rintro e w' ⟨rfl, rfl⟩))
  go_ret
  exact ⟨rfl, rfl⟩

theorem impl_HalfOk_any (h : H3) (w : World) :
    Calls Tryz.prog 55 #[.agg #[.int .i64 h.a, .int .i64 h.b, .int .i64 h.c]] w fun e w' => e = .returned (.bool (halfOk h)) ∧ Below w.heap.size w w' := by
  have HS := Lib.hid (show (inR h.a (-50000) 50000 && inR h.b (-50000) 50000 && inR h.c (-100000000) 100000000 && !(decide (h.a = 0) && decide (h.b = 0)) && decide (gcdL [h.a, h.b, h.c] = 1)) = halfOk h from rfl)
  rcases chain3 (inR h.a (-50000) 50000) (inR h.b (-50000) 50000) (inR h.c (-100000000) 100000000) with h1 | ⟨h1, h2⟩ | ⟨h1, h2, h3⟩ | ⟨h1, h2, h3⟩
  · go_enter Tryz.func55, Tryz.ntmps55
    go_wp2_with (first | (go_at_call 91; refine (isCoef_eq h1).mono ?_; rintro e w' ⟨rfl, rfl⟩))
    go_ret
    exact ⟨ret_bool (by rw [← HS.out]; (try rw [h1]); (try rw [h2]); (try rw [h3]); simp only [Bool.true_and, Bool.false_and]), (by repeat (first | exact bR | refine bO ?_ | refine bA ?_ | refine bS ?_ | refine bD ?_ | refine bN ?_))⟩
  · go_enter Tryz.func55, Tryz.ntmps55
    go_wp2_with (first | (go_at_call 91; refine (isCoef_eq (by assumption)).mono ?_; rintro e w' ⟨rfl, rfl⟩))
    go_ret
    exact ⟨ret_bool (by rw [← HS.out]; (try rw [h1]); (try rw [h2]); (try rw [h3]); simp only [Bool.true_and, Bool.false_and]), (by repeat (first | exact bR | refine bO ?_ | refine bA ?_ | refine bS ?_ | refine bD ?_ | refine bN ?_))⟩
  · go_enter Tryz.func55, Tryz.ntmps55
    go_wp2_with (first | (go_at_call 91; refine (isCoef_eq (by assumption)).mono ?_; rintro e w' ⟨rfl, rfl⟩) | (go_at_call 60; refine (inRange_eq h3).mono ?_; rintro e w' ⟨rfl, rfl⟩))
    go_ret
    exact ⟨ret_bool (by rw [← HS.out]; (try rw [h1]); (try rw [h2]); (try rw [h3]); simp only [Bool.true_and, Bool.false_and]), (by repeat (first | exact bR | refine bO ?_ | refine bA ?_ | refine bS ?_ | refine bD ?_ | refine bN ?_))⟩
  · have q1 := inR_iff.1 h1
    have q2 := inR_iff.1 h2
    have q3 := inR_iff.1 h3
    by_cases za : h.a = 0
    · by_cases zb : h.b = 0
      · have ea : (h.a == 0) = true := by simp [za]
        have eb : (h.b == 0) = true := by simp [zb]
        have ZA := Lib.hid za
        have ZB := Lib.hid zb
        clear za zb
        go_enter Tryz.func55, Tryz.ntmps55
        go_wp2_with (first | (go_at_call 91; refine (isCoef_eq (by assumption)).mono ?_; rintro e w' ⟨rfl, rfl⟩) | (go_at_call 60; refine (inRange_eq h3).mono ?_; rintro e w' ⟨rfl, rfl⟩))
        go_ret
        exact ⟨ret_bool (by rw [← HS.out, ZA.out, ZB.out]; simp only [decide_true, Bool.and_self, Bool.not_true, Bool.and_false, Bool.false_and]), (by repeat (first | exact bR | refine bO ?_ | refine bA ?_ | refine bS ?_ | refine bD ?_ | refine bN ?_))⟩
      · have ea : (h.a == 0) = true := by simp [za]
        have eb : (h.b == 0) = false := by simp [zb]
        have ZA := Lib.hid za
        clear za
        go_enter Tryz.func55, Tryz.ntmps55
        go_wp2_with (first | (go_at_call 91; refine (isCoef_eq (by assumption)).mono ?_; rintro e w' ⟨rfl, rfl⟩) | (go_at_call 60; refine (inRange_eq h3).mono ?_; rintro e w' ⟨rfl, rfl⟩) | (go_at_call 70; refine (gcd3_any _ _ _ _ _ (by simp) (by omega) (by omega) (by omega)).mono ?_; rintro e w' ⟨rfl, n, rfl⟩))
        go_ret
        exact ⟨ret_bool (by rw [← HS.out]; rw [h1, h2, h3, nat_beq1, decide_eq_false zb]; simp only [Bool.true_and, Bool.and_false, Bool.not_false]), (by repeat (first | exact bR | refine bO ?_ | refine bA ?_ | refine bS ?_ | refine bD ?_ | refine bN ?_))⟩
    · have ea : (h.a == 0) = false := by simp [za]
      go_enter Tryz.func55, Tryz.ntmps55
      go_wp2_with (first | (go_at_call 91; refine (isCoef_eq (by assumption)).mono ?_; rintro e w' ⟨rfl, rfl⟩) | (go_at_call 60; refine (inRange_eq h3).mono ?_; rintro e w' ⟨rfl, rfl⟩) | (go_at_call 70; refine (gcd3_any _ _ _ _ _ (by simp) (by omega) (by omega) (by omega)).mono ?_; rintro e w' ⟨rfl, n, rfl⟩))
      go_ret
      exact ⟨ret_bool (by rw [← HS.out]; rw [h1, h2, h3, nat_beq1, decide_eq_false za]; simp only [Bool.true_and, Bool.false_and, Bool.not_false]), (by repeat (first | exact bR | refine bO ?_ | refine bA ?_ | refine bS ?_ | refine bD ?_ | refine bN ?_))⟩

theorem spec_HalfOk_any (h : H3) (w : World) :
    Calls Tryz.prog 115 #[.agg #[.int .i64 h.a, .int .i64 h.b, .int .i64 h.c]] w fun e w' => e = .returned (.bool (halfOk h)) ∧ Below w.heap.size w w' := by
  have HS := Lib.hid (show (inR h.a (-50000) 50000 && inR h.b (-50000) 50000 && inR h.c (-100000000) 100000000 && !(decide (h.a = 0) && decide (h.b = 0)) && decide (gcdL [h.a, h.b, h.c] = 1)) = halfOk h from rfl)
  rcases chain2 (inR h.a (-50000) 50000) (inR h.b (-50000) 50000) with h1 | ⟨h1, h2⟩ | ⟨h1, h2⟩
  · go_enter Tryz.func115, Tryz.ntmps115
    go_wp2
    ((first | (with_reducible refine wp_region_calm2 (by kernel_rfl) (by kernel_rfl) ?_) | refine wp_region_calm (by kernel_rfl) (by kernel_rfl) ?_); (repeat (go_big_quiet_step (first | (go_at_call 112; exact calm_same (l01In_eq h1))))); refine wpQuiet_nil ?_; rintro _ ⟨y, rfl⟩)
    go_wp2
    go_ret
    exact ⟨ret_bool (by rw [← HS.out]; (try rw [h1]); (try rw [h2]); (try rw [h3]); simp only [Bool.true_and, Bool.false_and]), (by repeat (first | exact bR | refine bO ?_ | refine bA ?_ | refine bS ?_ | refine bD ?_ | refine bN ?_))⟩
  · go_enter Tryz.func115, Tryz.ntmps115
    go_wp2
    ((first | (with_reducible refine wp_region_calm2 (by kernel_rfl) (by kernel_rfl) ?_) | refine wp_region_calm (by kernel_rfl) (by kernel_rfl) ?_); (repeat (go_big_quiet_step (first | (go_at_call 112; exact calm_same (l01In_eq (by assumption)))))); refine wpQuiet_nil ?_; rintro _ ⟨y, rfl⟩)
    go_wp2
    go_ret
    exact ⟨ret_bool (by rw [← HS.out]; (try rw [h1]); (try rw [h2]); (try rw [h3]); simp only [Bool.true_and, Bool.false_and]), (by repeat (first | exact bR | refine bO ?_ | refine bA ?_ | refine bS ?_ | refine bD ?_ | refine bN ?_))⟩
  · have q1 := inR_iff.1 h1
    have q2 := inR_iff.1 h2
    have hg1 := gcdS_bd h.a h.b (by omega) (by omega)
    have fin : inR h.c (-100000000) 100000000 = true → gcdS (gcdS h.a h.b) h.c = (gcdL [h.a, h.b, h.c] : Int) := fun h3 => by
      have q3 := inR_iff.1 h3
      exact gcdS3 _ _ _ (by omega) (by omega) (by omega)
    have FIN := Lib.hid fin
    clear fin
    by_cases za : h.a = 0
    · by_cases zb : h.b = 0
      · have ea : (h.a != 0) = false := by simp [za]
        have eb : (h.b != 0) = false := by simp [zb]
        have ZA := Lib.hid za
        have ZB := Lib.hid zb
        clear za zb
        go_enter Tryz.func115, Tryz.ntmps115
        go_wp2
        ((first | (with_reducible refine wp_region_calm2 (by kernel_rfl) (by kernel_rfl) ?_) | refine wp_region_calm (by kernel_rfl) (by kernel_rfl) ?_); (repeat (go_big_quiet_step (first | (go_at_call 112; exact calm_same (l01In_eq (by assumption)))))); refine wpQuiet_nil ?_; rintro _ ⟨y, rfl⟩)
        go_wp2
        go_ret
        exact ⟨ret_bool (by rw [← HS.out, ZA.out, ZB.out]; simp only [decide_true, Bool.and_self, Bool.not_true, Bool.and_false, Bool.false_and]), (by repeat (first | exact bR | refine bO ?_ | refine bA ?_ | refine bS ?_ | refine bD ?_ | refine bN ?_))⟩
      · have ea : (h.a != 0) = false := by simp [za]
        have eb : (h.b != 0) = true := by simp [zb]
        have ZA := Lib.hid za
        clear za
        cases h3 : inR h.c (-100000000) 100000000 with
        | false =>
          go_enter Tryz.func115, Tryz.ntmps115
          go_wp2
          ((first | (with_reducible refine wp_region_calm2 (by kernel_rfl) (by kernel_rfl) ?_) | refine wp_region_calm (by kernel_rfl) (by kernel_rfl) ?_); (repeat (go_big_quiet_step (first | (go_at_call 112; exact calm_same (l01In_eq (by assumption)))))); refine wpQuiet_nil ?_; rintro _ ⟨y, rfl⟩)
          go_wp2
          go_ret
          exact ⟨ret_bool (by rw [← HS.out, h3]; simp only [Bool.and_false, Bool.false_and]), (by repeat (first | exact bR | refine bO ?_ | refine bA ?_ | refine bS ?_ | refine bD ?_ | refine bN ?_))⟩
        | true =>
          have q3 := inR_iff.1 h3
          go_enter Tryz.func115, Tryz.ntmps115
          go_wp2
          ((first | (with_reducible refine wp_region_calm2 (by kernel_rfl) (by kernel_rfl) ?_) | refine wp_region_calm (by kernel_rfl) (by kernel_rfl) ?_); (repeat (go_big_quiet_step (first | (go_at_call 112; exact calm_same (l01In_eq (by assumption))) | (go_at_call 114; exact calm_drewN (spec_GcdOf_any _ _ _ (by omega) (by omega) (by omega) (by omega)))))); refine wpQuiet_nil ?_; rintro _ ⟨y, rfl⟩)
          go_wp2
          go_ret
          exact ⟨ret_bool (by rw [← HS.out, FIN.out h3]; rw [h1, h2, h3, nat_beq1, decide_eq_false zb]; simp only [Bool.true_and, Bool.and_false, Bool.not_false]), (by repeat (first | exact bR | refine bO ?_ | refine bA ?_ | refine bS ?_ | refine bD ?_ | refine bN ?_))⟩
    · have ea : (h.a != 0) = true := by simp [za]
      cases h3 : inR h.c (-100000000) 100000000 with
      | false =>
        go_enter Tryz.func115, Tryz.ntmps115
        go_wp2
        ((first | (with_reducible refine wp_region_calm2 (by kernel_rfl) (by kernel_rfl) ?_) | refine wp_region_calm (by kernel_rfl) (by kernel_rfl) ?_); (repeat (go_big_quiet_step (first | (go_at_call 112; exact calm_same (l01In_eq (by assumption)))))); refine wpQuiet_nil ?_; rintro _ ⟨y, rfl⟩)
        go_wp2
        go_ret
        exact ⟨ret_bool (by rw [← HS.out, h3]; simp only [Bool.and_false, Bool.false_and]), (by repeat (first | exact bR | refine bO ?_ | refine bA ?_ | refine bS ?_ | refine bD ?_ | refine bN ?_))⟩
      | true =>
        have q3 := inR_iff.1 h3
        go_enter Tryz.func115, Tryz.ntmps115
        go_wp2
        ((first | (with_reducible refine wp_region_calm2 (by kernel_rfl) (by kernel_rfl) ?_) | refine wp_region_calm (by kernel_rfl) (by kernel_rfl) ?_); (repeat (go_big_quiet_step (first | (go_at_call 112; exact calm_same (l01In_eq (by assumption))) | (go_at_call 114; exact calm_drewN (spec_GcdOf_any _ _ _ (by omega) (by omega) (by omega) (by omega)))))); refine wpQuiet_nil ?_; rintro _ ⟨y, rfl⟩)
        go_wp2
        go_ret
        exact ⟨ret_bool (by rw [← HS.out, FIN.out h3]; rw [h1, h2, h3, nat_beq1, decide_eq_false za]; simp only [Bool.true_and, Bool.false_and, Bool.not_false]), (by repeat (first | exact bR | refine bO ?_ | refine bA ?_ | refine bS ?_ | refine bD ?_ | refine bN ?_))⟩

theorem impl_HalfOk_true {h : H3} {w : World} (k : HOk h) : Calls Tryz.prog 55 #[.agg #[.int .i64 h.a, .int .i64 h.b, .int .i64 h.c]] w fun e w' => e = .returned (.bool true) ∧ Below w.heap.size w w' := by
  have := impl_HalfOk_any h w; rw [(halfOk_iff h).2 k] at this; exact this
theorem spec_HalfOk_true {h : H3} {w : World} (k : HOk h) : Calls Tryz.prog 115 #[.agg #[.int .i64 h.a, .int .i64 h.b, .int .i64 h.c]] w fun e w' => e = .returned (.bool true) ∧ Below w.heap.size w w' := by
  have := spec_HalfOk_any h w; rw [(halfOk_iff h).2 k] at this; exact this
theorem impl_HalfOk_eq {h : H3} {v : Bool} {w : World} (k : halfOk h = v) : Calls Tryz.prog 55 #[.agg #[.int .i64 h.a, .int .i64 h.b, .int .i64 h.c]] w fun e w' => e = .returned (.bool v) ∧ Below w.heap.size w w' := by
  subst k; exact impl_HalfOk_any h w
theorem spec_HalfOk_eq {h : H3} {v : Bool} {w : World} (k : halfOk h = v) : Calls Tryz.prog 115 #[.agg #[.int .i64 h.a, .int .i64 h.b, .int .i64 h.c]] w fun e w' => e = .returned (.bool v) ∧ Below w.heap.size w w' := by
  subst k; exact spec_HalfOk_any h w
end Go.Proofs.YtabmfaamadbefaaGreat
set_option linter.unusedSimpArgs false
set_option linter.unusedVariables false
set_option linter.unusedSectionVars false
namespace Go.Proofs.YtabmfaamadbefaaGreat
open Go.RowKit
theorem isUpper_eq {h : H3} {v : Bool} {w : World} (e : upB h = v) : Calls Tryz.prog 139 #[.agg #[.int .i64 h.a, .int .i64 h.b, .int .i64 h.c]] w fun e w' => e = .returned (.bool v) ∧ Below w.heap.size w w' := by
  subst e
  by_cases hb : 0 < h.b
  · go_enter Tryz.func139, Tryz.ntmps139
    go_wp2
    go_ret
    exact ⟨ret_bool (by unfold upB; simp [hb]), (by repeat (first | exact bR | refine bO ?_ | refine bA ?_ | refine bS ?_ | refine bD ?_ | refine bN ?_))⟩
  · by_cases hz : h.b = 0
    · have ez : (h.b == 0) = true := by simp [hz]
      have HZ := Lib.hid hz
      clear hz
      by_cases ha : 0 < h.a
      · go_enter Tryz.func139, Tryz.ntmps139
        go_wp2
        go_ret
        exact ⟨ret_bool (by unfold upB; simp [HZ.out, ha]), (by repeat (first | exact bR | refine bO ?_ | refine bA ?_ | refine bS ?_ | refine bD ?_ | refine bN ?_))⟩
      · go_enter Tryz.func139, Tryz.ntmps139
        go_wp2
        go_ret
        exact ⟨ret_bool (by unfold upB; simp [HZ.out]; omega), (by repeat (first | exact bR | refine bO ?_ | refine bA ?_ | refine bS ?_ | refine bD ?_ | refine bN ?_))⟩
    · have ez : (h.b == 0) = false := by simp [hz]
      go_enter Tryz.func139, Tryz.ntmps139
      go_wp2
      go_ret
      exact ⟨ret_bool (by unfold upB; simp [hz]; omega), (by repeat (first | exact bR | refine bO ?_ | refine bA ?_ | refine bS ?_ | refine bD ?_ | refine bN ?_))⟩

def upI (v : Bool) : Int := if v then 0 else 1
theorem l04Upper_any (h : H3) (w : World) : Calls Tryz.prog 152 #[.agg #[.int .i64 h.a, .int .i64 h.b, .int .i64 h.c]] w fun e w' => e = .returned (.int .i64 (upI (upB h))) ∧ Below w.heap.size w w' := by
  by_cases hb : 0 < h.b
  · go_enter Tryz.func152, Tryz.ntmps152
    go_wp2
    go_ret
    exact ⟨ret_int (by unfold upI upB; simp [hb]), (by repeat (first | exact bR | refine bO ?_ | refine bA ?_ | refine bS ?_ | refine bD ?_ | refine bN ?_))⟩
  · by_cases hz : h.b = 0
    · have ez : (h.b == 0) = true := by simp [hz]
      have HZ := Lib.hid hz
      clear hz
      by_cases ha : 0 < h.a
      · go_enter Tryz.func152, Tryz.ntmps152
        go_wp2
        go_ret
        exact ⟨ret_int (by unfold upI upB; simp [HZ.out, ha]), (by repeat (first | exact bR | refine bO ?_ | refine bA ?_ | refine bS ?_ | refine bD ?_ | refine bN ?_))⟩
      · go_enter Tryz.func152, Tryz.ntmps152
        go_wp2
        go_ret
        exact ⟨ret_int (by unfold upI upB; simp [HZ.out]; omega), (by repeat (first | exact bR | refine bO ?_ | refine bA ?_ | refine bS ?_ | refine bD ?_ | refine bN ?_))⟩
    · have ez : (h.b == 0) = false := by simp [hz]
      go_enter Tryz.func152, Tryz.ntmps152
      go_wp2
      go_ret
      exact ⟨ret_int (by unfold upI upB; simp [hz]; omega), (by repeat (first | exact bR | refine bO ?_ | refine bA ?_ | refine bS ?_ | refine bD ?_ | refine bN ?_))⟩
theorem l04Upper_t {h : H3} {w : World} (e : upB h = true) : Calls Tryz.prog 152 #[.agg #[.int .i64 h.a, .int .i64 h.b, .int .i64 h.c]] w fun e w' => e = .returned (.int .i64 0) ∧ Below w.heap.size w w' := by
  have := l04Upper_any h w; rw [e] at this; exact this
theorem l04Upper_f {h : H3} {w : World} (e : upB h = false) : Calls Tryz.prog 152 #[.agg #[.int .i64 h.a, .int .i64 h.b, .int .i64 h.c]] w fun e w' => e = .returned (.int .i64 1) ∧ Below w.heap.size w w' := by
  have := l04Upper_any h w; rw [e] at this; exact this

theorem cross_any {g h : H3} {w : World} (kg : HOk g) (kh : HOk h) : Calls Tryz.prog 126 #[.agg #[.int .i64 g.a, .int .i64 g.b, .int .i64 g.c], .agg #[.int .i64 h.a, .int .i64 h.b, .int .i64 h.c]] w fun e w' => e = .returned (.int .i64 (cross g h)) ∧ Below w.heap.size w w' := by
  have p1 := mul_bd kg.ba kh.bb
  have p2 := mul_bd kg.bb kh.ba
  go_enter Tryz.func126, Tryz.ntmps126
  go_wp2
  go_ret
  exact ⟨ret_int rfl, (by repeat (first | exact bR | refine bO ?_ | refine bA ?_ | refine bS ?_ | refine bD ?_ | refine bN ?_))⟩

theorem size_any {h : H3} {w : World} (k : HOk h) : Calls Tryz.prog 141 #[.agg #[.int .i64 h.a, .int .i64 h.b, .int .i64 h.c]] w fun e w' => e = .returned (.int .i64 (sizeH h)) ∧ Below w.heap.size w w' := by
  obtain ⟨a1, a2⟩ := k.ba
  obtain ⟨b1, b2⟩ := k.bb
  by_cases hz : h.a = 0
  · have ez : (h.a != 0) = false := by simp [hz]
    have HZ := Lib.hid (show max h.b (-h.b) = sizeH h by simp [sizeH, hz])
    clear hz
    go_enter Tryz.func141, Tryz.ntmps141
    go_wp2
    all_goals
      go_ret
      exact ⟨ret_int (by rw [← HZ.out]; omega), (by repeat (first | exact bR | refine bO ?_ | refine bA ?_ | refine bS ?_ | refine bD ?_ | refine bN ?_))⟩
  · have ez : (h.a != 0) = true := by simp [hz]
    have HZ := Lib.hid (show max h.a (-h.a) = sizeH h by simp [sizeH, hz])
    go_enter Tryz.func141, Tryz.ntmps141
    go_wp2
    all_goals
      go_ret
      exact ⟨ret_int (by rw [← HZ.out]; omega), (by repeat (first | exact bR | refine bO ?_ | refine bA ?_ | refine bS ?_ | refine bD ?_ | refine bN ?_))⟩

theorem size_bd {h : H3} (k : HOk h) : 0 < sizeH h ∧ sizeH h ≤ 50000 := by
  refine ⟨size_pos k.nz, ?_⟩
  have := k.ba; have := k.bb
  unfold sizeH; split <;> omega

theorem beforeAngle_any {g h : H3} {w : World} (kg : HOk g) (kh : HOk h) : Calls Tryz.prog 121 #[.agg #[.int .i64 g.a, .int .i64 g.b, .int .i64 g.c], .agg #[.int .i64 h.a, .int .i64 h.b, .int .i64 h.c]] w fun e w' => e = .returned (.bool (before g h)) ∧ Below w.heap.size w w' := by
  have HS := Lib.hid (show (if upB g != upB h then upB g else decide (0 < cross g h)) = before g h from rfl)
  cases h1 : upB g <;> cases h2 : upB h
  · go_enter Tryz.func121, Tryz.ntmps121
    go_wp2
    ((first | (with_reducible refine wp_region_calm2 (by kernel_rfl) (by kernel_rfl) ?_) | refine wp_region_calm (by kernel_rfl) (by kernel_rfl) ?_); (repeat (go_big_quiet_step (first | (go_at_call 139; exact calm_below (isUpper_eq (by assumption)))))); refine wpQuiet_nil ?_; rintro _ ⟨y, rfl⟩)
    go_wp2_with (first | (go_at_call 126; (first | (with_reducible refine (calls_ov2 (cross_any kg kh)).mono ?_) | refine (calls_ov (cross_any kg kh)).mono ?_); rintro e w' ⟨rfl, x, rfl⟩))
    go_ret
    exact ⟨ret_bool (by rw [← HS.out, h1, h2]; rfl), (by repeat (first | exact bR | refine bO ?_ | refine bA ?_ | refine bS ?_ | refine bD ?_ | refine bN ?_))⟩
  · go_enter Tryz.func121, Tryz.ntmps121
    go_wp2
    ((first | (with_reducible refine wp_region_calm2 (by kernel_rfl) (by kernel_rfl) ?_) | refine wp_region_calm (by kernel_rfl) (by kernel_rfl) ?_); (repeat (go_big_quiet_step (first | (go_at_call 139; exact calm_below (isUpper_eq (by assumption)))))); refine wpQuiet_nil ?_; rintro _ ⟨y, rfl⟩)
    go_wp2_with (first | (go_at_call 139; (first | (with_reducible refine (calls_ov2 (isUpper_eq (by assumption))).mono ?_) | refine (calls_ov (isUpper_eq (by assumption))).mono ?_); rintro e w' ⟨rfl, x, rfl⟩))
    go_ret
    exact ⟨ret_bool (by rw [← HS.out, h1, h2]; rfl), (by repeat (first | exact bR | refine bO ?_ | refine bA ?_ | refine bS ?_ | refine bD ?_ | refine bN ?_))⟩
  · go_enter Tryz.func121, Tryz.ntmps121
    go_wp2
    ((first | (with_reducible refine wp_region_calm2 (by kernel_rfl) (by kernel_rfl) ?_) | refine wp_region_calm (by kernel_rfl) (by kernel_rfl) ?_); (repeat (go_big_quiet_step (first | (go_at_call 139; exact calm_below (isUpper_eq (by assumption)))))); refine wpQuiet_nil ?_; rintro _ ⟨y, rfl⟩)
    go_wp2_with (first | (go_at_call 139; (first | (with_reducible refine (calls_ov2 (isUpper_eq (by assumption))).mono ?_) | refine (calls_ov (isUpper_eq (by assumption))).mono ?_); rintro e w' ⟨rfl, x, rfl⟩))
    go_ret
    exact ⟨ret_bool (by rw [← HS.out, h1, h2]; rfl), (by repeat (first | exact bR | refine bO ?_ | refine bA ?_ | refine bS ?_ | refine bD ?_ | refine bN ?_))⟩
  · go_enter Tryz.func121, Tryz.ntmps121
    go_wp2
    ((first | (with_reducible refine wp_region_calm2 (by kernel_rfl) (by kernel_rfl) ?_) | refine wp_region_calm (by kernel_rfl) (by kernel_rfl) ?_); (repeat (go_big_quiet_step (first | (go_at_call 139; exact calm_below (isUpper_eq (by assumption)))))); refine wpQuiet_nil ?_; rintro _ ⟨y, rfl⟩)
    go_wp2_with (first | (go_at_call 126; (first | (with_reducible refine (calls_ov2 (cross_any kg kh)).mono ?_) | refine (calls_ov (cross_any kg kh)).mono ?_); rintro e w' ⟨rfl, x, rfl⟩))
    go_ret
    exact ⟨ret_bool (by rw [← HS.out, h1, h2]; rfl), (by repeat (first | exact bR | refine bO ?_ | refine bA ?_ | refine bS ?_ | refine bD ?_ | refine bN ?_))⟩

theorem sameDirection_any {g h : H3} {w : World} (kg : HOk g) (kh : HOk h) : Calls Tryz.prog 122 #[.agg #[.int .i64 g.a, .int .i64 g.b, .int .i64 g.c], .agg #[.int .i64 h.a, .int .i64 h.b, .int .i64 h.c]] w fun e w' => e = .returned (.bool (sameDir g h)) ∧ Below w.heap.size w w' := by
  have HS := Lib.hid (show (decide (cross g h = 0) && (upB g == upB h)) = sameDir g h from rfl)
  by_cases hz : cross g h = 0
  · have ez : (cross g h == 0) = true := by simp [hz]
    have HZ := Lib.hid hz
    clear hz
    cases h1 : upB g <;> cases h2 : upB h
    all_goals
      go_enter Tryz.func122, Tryz.ntmps122
      go_wp2
      ((first | (with_reducible refine wp_region_calm2 (by kernel_rfl) (by kernel_rfl) ?_) | refine wp_region_calm (by kernel_rfl) (by kernel_rfl) ?_); (repeat (go_big_quiet_step (first | (go_at_call 139; exact calm_below (isUpper_eq (by assumption))) | (go_at_call 126; exact calm_below (cross_any kg kh))))); refine wpQuiet_nil ?_; rintro _ ⟨y, rfl⟩)
      go_wp2
      go_ret
      exact ⟨ret_bool (by rw [← HS.out, HZ.out, h1, h2]; rfl), (by repeat (first | exact bR | refine bO ?_ | refine bA ?_ | refine bS ?_ | refine bD ?_ | refine bN ?_))⟩
  · have ez : (cross g h == 0) = false := by simp [hz]
    have HZ := Lib.hid hz
    clear hz
    go_enter Tryz.func122, Tryz.ntmps122
    go_wp2
    ((first | (with_reducible refine wp_region_calm2 (by kernel_rfl) (by kernel_rfl) ?_) | refine wp_region_calm (by kernel_rfl) (by kernel_rfl) ?_); (repeat (go_big_quiet_step (first | (go_at_call 139; exact calm_below (isUpper_eq (by assumption))) | (go_at_call 126; exact calm_below (cross_any kg kh))))); refine wpQuiet_nil ?_; rintro _ ⟨y, rfl⟩)
    go_wp2
    go_ret
    exact ⟨ret_bool (by rw [← HS.out, decide_eq_false HZ.out]; rfl), (by repeat (first | exact bR | refine bO ?_ | refine bA ?_ | refine bS ?_ | refine bD ?_ | refine bN ?_))⟩

theorem SameDirection_any {g h : H3} {v : Bool} {w : World} (kg : HOk g) (kh : HOk h) (e : sameDir g h = v) : Calls Tryz.prog 140 #[.agg #[.int .i64 g.a, .int .i64 g.b, .int .i64 g.c], .agg #[.int .i64 h.a, .int .i64 h.b, .int .i64 h.c]] w fun e w' => e = .returned (.bool v) ∧ Below w.heap.size w w' := by
  have HS := Lib.hid e
  clear e
  go_enter Tryz.func140, Tryz.ntmps140
  go_wp2_with (first | (go_at_call 55; (first | (with_reducible refine (calls_ov2 (impl_HalfOk_true (by assumption))).mono ?_) | refine (calls_ov (impl_HalfOk_true (by assumption))).mono ?_); rintro e w' ⟨rfl, x, rfl⟩) | (go_at_call 122; (first | (with_reducible refine (calls_ov2 (sameDirection_any kg kh)).mono ?_) | refine (calls_ov (sameDirection_any kg kh)).mono ?_); rintro e w' ⟨rfl, x, rfl⟩))
  go_ret
  exact ⟨ret_bool HS.out, (by repeat (first | exact bR | refine bO ?_ | refine bA ?_ | refine bS ?_ | refine bD ?_ | refine bN ?_))⟩

theorem tighter_bd {g h : H3} (kg : HOk g) (kh : HOk h) : -5000000000000 ≤ h.c * sizeH g ∧ h.c * sizeH g ≤ 5000000000000 := by
  have s := size_bd kg
  have := mul_bd kh.bc (y := sizeH g) (B := 50000) ⟨by omega, by omega⟩
  omega

theorem TighterHalf_any {g h : H3} {w : World} (kg : HOk g) (kh : HOk h) (e : sameDir g h = true) : Calls Tryz.prog 123 #[.agg #[.int .i64 g.a, .int .i64 g.b, .int .i64 g.c], .agg #[.int .i64 h.a, .int .i64 h.b, .int .i64 h.c]] w fun e w' => e = .returned (.agg #[.int .i64 (tighter g h).a, .int .i64 (tighter g h).b, .int .i64 (tighter g h).c]) ∧ Below w.heap.size w w' := by
  have b1 := tighter_bd kg kh
  have b2 := tighter_bd kh kg
  have HE := Lib.hid e
  clear e
  by_cases ht : h.c * sizeH g < g.c * sizeH h
  · have HS := Lib.hid (show tighter g h = h by unfold tighter; rw [if_pos ht])
    go_enter Tryz.func123, Tryz.ntmps123
    go_wp2_with (first | (go_at_call 140; (first | (with_reducible refine (calls_ov2 (SameDirection_any kg kh HE.out)).mono ?_) | refine (calls_ov (SameDirection_any kg kh HE.out)).mono ?_); rintro e w' ⟨rfl, x, rfl⟩))
    ((first | (with_reducible refine wp_region_calm2 (by kernel_rfl) (by kernel_rfl) ?_) | refine wp_region_calm (by kernel_rfl) (by kernel_rfl) ?_); (repeat (go_big_quiet_step (first | (go_at_call 141; exact calm_below (size_any (by assumption)))))); refine wpQuiet_nil ?_; rintro _ ⟨y, rfl⟩)
    go_wp2
    refine bodyPost_ret (v := .agg #[.int .i64 h.a, .int .i64 h.b, .int .i64 h.c]) (by simp [results, Tryz.results123, go_sem]) rfl ⟨by rw [HS.out], ?_⟩
    (repeat (first | exact bR | refine bO ?_ | refine bA ?_ | refine bS ?_ | refine bD ?_ | refine bN ?_))
  · have HS := Lib.hid (show tighter g h = g by unfold tighter; rw [if_neg ht])
    go_enter Tryz.func123, Tryz.ntmps123
    go_wp2_with (first | (go_at_call 140; (first | (with_reducible refine (calls_ov2 (SameDirection_any kg kh HE.out)).mono ?_) | refine (calls_ov (SameDirection_any kg kh HE.out)).mono ?_); rintro e w' ⟨rfl, x, rfl⟩))
    ((first | (with_reducible refine wp_region_calm2 (by kernel_rfl) (by kernel_rfl) ?_) | refine wp_region_calm (by kernel_rfl) (by kernel_rfl) ?_); (repeat (go_big_quiet_step (first | (go_at_call 141; exact calm_below (size_any (by assumption)))))); refine wpQuiet_nil ?_; rintro _ ⟨y, rfl⟩)
    go_wp2
    refine bodyPost_ret (v := .agg #[.int .i64 g.a, .int .i64 g.b, .int .i64 g.c]) (by simp [results, Tryz.results123, go_sem]) rfl ⟨by rw [HS.out], ?_⟩
    (repeat (first | exact bR | refine bO ?_ | refine bA ?_ | refine bS ?_ | refine bD ?_ | refine bN ?_))

theorem leavesRoom_any {g h : H3} {w : World} (kg : HOk g) (kh : HOk h) : Calls Tryz.prog 127 #[.agg #[.int .i64 g.a, .int .i64 g.b, .int .i64 g.c], .agg #[.int .i64 h.a, .int .i64 h.b, .int .i64 h.c]] w fun e w' => e = .returned (.bool (leaves g h)) ∧ Below w.heap.size w w' := by
  have b1 := tighter_bd kg kh
  have b2 := tighter_bd kh kg
  go_enter Tryz.func127, Tryz.ntmps127
  go_wp2
  ((first | (with_reducible refine wp_region_calm2 (by kernel_rfl) (by kernel_rfl) ?_) | refine wp_region_calm (by kernel_rfl) (by kernel_rfl) ?_); (repeat (go_big_quiet_step (first | (go_at_call 141; exact calm_below (size_any (by assumption)))))); refine wpQuiet_nil ?_; rintro _ ⟨y, rfl⟩)
  go_wp2
  go_ret
  exact ⟨ret_bool rfl, (by repeat (first | exact bR | refine bO ?_ | refine bA ?_ | refine bS ?_ | refine bD ?_ | refine bN ?_))⟩
end Go.Proofs.YtabmfaamadbefaaGreat