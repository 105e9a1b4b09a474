/- Contracts of SpotOk and SpotOf, of the program and of the reference. Condition: the arguments are ints. -/
import Derived.Test.YtabmfaamadbefaaGreatA
import Derived.Test.YtabmfaamadbefaaGreatGeo
set_option linter.unusedSimpArgs false
set_option linter.unusedVariables false
set_option linter.unusedSectionVars false
namespace Go.Proofs.YtabmfaamadbefaaGreat
open Go.RowKit
theorem mul_le_bd {a M : Int} {g : Nat} (hg : 0 < g) (hM : 0 ≤ M) (h : -M ≤ a * (g : Int) ∧ a * (g : Int) ≤ M) : -M ≤ a ∧ a ≤ M := by
  rcases Int.le_total 0 a with h0 | h0
  · have := Int.mul_le_mul_of_nonneg_left (show (1 : Int) ≤ (g : Int) by omega) h0
    omega
  · have := Int.mul_le_mul_of_nonneg_left (show (1 : Int) ≤ (g : Int) by omega) (show 0 ≤ -a by omega)
    rw [Int.neg_mul, Int.neg_mul] at this
    omega
theorem gcd3s_any (a b c : Int) (B : Nat) (w : World) (hB : B = w.heap.size) (ha : -9223372036854775808 ≤ a ∧ a ≤ 9223372036854775807) (hb : -9223372036854775808 ≤ b ∧ b ≤ 9223372036854775807)
    (hc : -9223372036854775808 ≤ c ∧ c ≤ 9223372036854775807) :
    Calls Tryz.prog 70 #[.slice (some ⟨B, 0, none⟩) 3 3] (w.alloc (.cells #[.int .i64 a, .int .i64 b, .int .i64 c] 3)) fun e w' =>
      e = .returned (.int .u64 (gcdL [a, b, c])) ∧ ∃ n, w' = (w.alloc (.cells #[.int .i64 a, .int .i64 b, .int .i64 c] 3)).drewN n := by
  subst hB
  refine gcdOfAll_any [a, b, c] w.heap.size 3 _ (by simp) ?_ ?_
  · intro x hx
    simp at hx
    rcases hx with rfl | rfl | rfl <;> assumption
  · intro k hk
    match k, hk with
    | 0, _ => simp [go_sem]
    | 1, _ => simp [go_sem]
    | 2, _ => simp [go_sem]
theorem gcd3_eq {a b c : Int} {B g : Nat} {w : World} (h : gcdL [a, b, c] = g) (hB : B = w.heap.size) (ha : -9223372036854775808 ≤ a ∧ a ≤ 9223372036854775807) (hb : -9223372036854775808 ≤ b ∧ b ≤ 9223372036854775807)
    (hc : -9223372036854775808 ≤ c ∧ c ≤ 9223372036854775807) :
    Calls Tryz.prog 70 #[.slice (some ⟨B, 0, none⟩) 3 3] (w.alloc (.cells #[.int .i64 a, .int .i64 b, .int .i64 c] 3)) fun e w' =>
      e = .returned (.int .u64 g) ∧ ∃ n, w' = (w.alloc (.cells #[.int .i64 a, .int .i64 b, .int .i64 c] 3)).drewN n := by
  subst h; exact gcd3s_any a b c B w hB ha hb hc
theorem spec_GcdOf_eq {a b v : Int} {w : World} (h : gcdS a b = v) (ha : -9223372036854775808 ≤ a) (hb : -9223372036854775808 ≤ b) (ha' : a ≤ 9223372036854775807) (hb' : b ≤ 9223372036854775807) :
    Calls Tryz.prog 114 #[.int .i64 a, .int .i64 b] w fun e w' => e = .returned (.int .i64 v) ∧ ∃ n, w' = w.drewN n := by
  subst h; exact spec_GcdOf_any a b w ha hb ha' hb'
theorem leastAbs {n : Int} (hn : -9223372036854775808 ≤ n ∧ n ≤ 9223372036854775807) : ((n.natAbs : Int) == 9223372036854775808) = decide (n = -9223372036854775808) := by
  by_cases h : n = -9223372036854775808
  · subst h; rfl
  · rw [decide_eq_false h]; simp; omega
theorem isLeast_eq {n : Int} {v : Bool} {w : World} (h : decide (n = -9223372036854775808) = v) (hn : -9223372036854775808 ≤ n ∧ n ≤ 9223372036854775807) :
    Calls Tryz.prog 74 #[.int .i64 n] w fun e w' => e = .returned (.bool v) ∧ w = w' := by
  go_enter Tryz.func74, Tryz.ntmps74
  go_wp2_with ((go_at_call 75; refine (magnitude_any n _ hn.1 hn.2).mono ?_; rintro e w' ⟨rfl, rfl⟩))
  go_ret
  exact ⟨ret_bool (by rw [leastAbs hn, h]), rfl⟩
theorem isLeast_f {n : Int} {w : World} (h : n ≠ -9223372036854775808) (hn : -9223372036854775808 ≤ n ∧ n ≤ 9223372036854775807) :
    Calls Tryz.prog 74 #[.int .i64 n] w fun e w' => e = .returned (.bool false) ∧ w = w' := isLeast_eq (decide_eq_false h) hn
theorem isLeast_t {n : Int} {w : World} (h : n = -9223372036854775808) (hn : -9223372036854775808 ≤ n ∧ n ≤ 9223372036854775807) :
    Calls Tryz.prog 74 #[.int .i64 n] w fun e w' => e = .returned (.bool true) ∧ w = w' := isLeast_eq (decide_eq_true h) hn
theorem natAbs_div {n q : Int} {g : Nat} (hg : 0 < g) (h : n = q * (g : Int)) : (n.natAbs : Int).tdiv (g : Int) = (q.natAbs : Int) := by
  subst h
  rw [Int.natAbs_mul, Int.natAbs_natCast, Int.natCast_mul, Int.mul_tdiv_cancel _ (by omega)]
theorem divided_eq {n q : Int} {g : Nat} {w : World} (h : n = q * (g : Int)) (hg : 0 < g) (hn : -9223372036854775807 ≤ n ∧ n ≤ 9223372036854775807) :
    Calls Tryz.prog 131 #[.int .i64 n, .int .u64 g] w fun e w' => e = .returned (.int .i64 q) ∧ w = w' := by
  have hq := mul_le_bd (a := q) (M := 9223372036854775807) hg (by omega) (by rw [← h]; exact hn)
  have g0 : ((g : Int) == 0) = false := by simp; omega
  have hd := natAbs_div hg h
  have hs : n < 0 ↔ q < 0 := by
    subst h
    constructor
    · intro h
      rcases Int.lt_or_le q 0 with h1 | h1
      · exact h1
      · have := Int.mul_nonneg h1 (show (0 : Int) ≤ g by omega); omega
    · intro h; exact Int.mul_neg_of_neg_of_pos h (by omega)
  have hw : IntKind.u64.wrap (q.natAbs : Int) = (q.natAbs : Int) := by rw [IntKind.wrap_u64]; omega
  have hw2 : IntKind.i64.wrap (q.natAbs : Int) = (q.natAbs : Int) := by rw [IntKind.wrap_i64]; omega
  have hw3 : IntKind.i64.wrap (-(q.natAbs : Int)) = -(q.natAbs : Int) := by rw [IntKind.wrap_i64]; omega
  clear h
  by_cases hneg : n < 0
  · have hq0 := hs.1 hneg
    clear hs
    go_enter Tryz.func131, Tryz.ntmps131
    go_wp2_with ((go_at_call 75; refine (magnitude_any n _ (by omega) hn.2).mono ?_; rintro e w' ⟨rfl, rfl⟩))
    go_ret
    exact ⟨ret_int (by omega), rfl⟩
  · have hq0 : ¬ q < 0 := fun h => hneg (hs.2 h)
    clear hs
    go_enter Tryz.func131, Tryz.ntmps131
    go_wp2_with ((go_at_call 75; refine (magnitude_any n _ (by omega) hn.2).mono ?_; rintro e w' ⟨rfl, rfl⟩))
    go_ret
    exact ⟨ret_int (by omega), rfl⟩

theorem impl_SpotOk_any (x y d : Int) (w : World) (hx : -9223372036854775808 ≤ x ∧ x ≤ 9223372036854775807) (hy : -9223372036854775808 ≤ y ∧ y ≤ 9223372036854775807) (hd : -9223372036854775808 ≤ d ∧ d ≤ 9223372036854775807) :
    Calls Tryz.prog 31 #[.agg #[.int .i64 x, .int .i64 y, .int .i64 d]] w fun e w' => e = .returned (.bool (spotOk x y d)) ∧ Below w.heap.size w w' := by
  have HS := Lib.hid (show (inR d 1 5000000000 && inR x (-1000 * d) (1000 * d) && inR y (-1000 * d) (1000 * d) && decide (gcdL [x, y, d] = 1)) = spotOk x y d from rfl)
  rcases chain3 (inR d 1 5000000000) (inR x (-1000 * d) (1000 * d)) (inR y (-1000 * d) (1000 * d)) with h1 | ⟨h1, h2⟩ | ⟨h1, h2, h3⟩ | ⟨h1, h2, h3⟩
  · go_enter Tryz.func31, Tryz.ntmps31
    go_wp2_with (first | (go_at_call 60; refine (inRange_eq h1).mono ?_; rintro e w' ⟨rfl, rfl⟩))
    go_ret
    exact ⟨ret_bool (by rw [← HS.out, h1]; simp only [Bool.false_and]), (by repeat (first | exact bR | refine bO ?_ | refine bA ?_ | refine bS ?_ | refine bD ?_ | refine bN ?_))⟩
  · have q1 := inR_iff.1 h1
    have hw1 : IntKind.i64.wrap (-1000 * d) = -1000 * d := by rw [IntKind.wrap_i64]; omega
    have hw2 : IntKind.i64.wrap (1000 * d) = 1000 * d := by rw [IntKind.wrap_i64]; omega
    go_enter Tryz.func31, Tryz.ntmps31
    go_wp2_with (first | (go_at_call 60; refine (inRange_eq (by assumption)).mono ?_; rintro e w' ⟨rfl, rfl⟩))
    go_ret
    exact ⟨ret_bool (by rw [← HS.out, h1, h2]; simp only [Bool.false_and, Bool.and_false]), (by repeat (first | exact bR | refine bO ?_ | refine bA ?_ | refine bS ?_ | refine bD ?_ | refine bN ?_))⟩
  · have q1 := inR_iff.1 h1
    have hw1 : IntKind.i64.wrap (-1000 * d) = -1000 * d := by rw [IntKind.wrap_i64]; omega
    have hw2 : IntKind.i64.wrap (1000 * d) = 1000 * d := by rw [IntKind.wrap_i64]; omega
    go_enter Tryz.func31, Tryz.ntmps31
    go_wp2_with (first | (go_at_call 60; refine (inRange_eq (by assumption)).mono ?_; rintro e w' ⟨rfl, rfl⟩))
    go_ret
    exact ⟨ret_bool (by rw [← HS.out, h1, h2, h3]; simp only [Bool.false_and, Bool.and_false]), (by repeat (first | exact bR | refine bO ?_ | refine bA ?_ | refine bS ?_ | refine bD ?_ | refine bN ?_))⟩
  · have q1 := inR_iff.1 h1
    have hw1 : IntKind.i64.wrap (-1000 * d) = -1000 * d := by rw [IntKind.wrap_i64]; omega
    have hw2 : IntKind.i64.wrap (1000 * d) = 1000 * d := by rw [IntKind.wrap_i64]; omega
    go_enter Tryz.func31, Tryz.ntmps31
    go_wp2_with (first | (go_at_call 60; refine (inRange_eq (by assumption)).mono ?_; rintro e w' ⟨rfl, rfl⟩) | (go_at_call 70; refine (gcd3s_any _ _ _ _ _ (by simp) (by omega) (by omega) (by omega)).mono ?_; rintro e w' ⟨rfl, n, rfl⟩))
    go_ret
    exact ⟨ret_bool (by rw [← HS.out, h1, h2, h3, nat_beq1]; simp only [Bool.true_and]), (by repeat (first | exact bR | refine bO ?_ | refine bA ?_ | refine bS ?_ | refine bD ?_ | refine bN ?_))⟩
theorem impl_SpotOk_eq {x y d : Int} {v : Bool} {w : World} (h : spotOk x y d = v) (hx : -9223372036854775808 ≤ x ∧ x ≤ 9223372036854775807) (hy : -9223372036854775808 ≤ y ∧ y ≤ 9223372036854775807) (hd : -9223372036854775808 ≤ d ∧ d ≤ 9223372036854775807) :
    Calls Tryz.prog 31 #[.agg #[.int .i64 x, .int .i64 y, .int .i64 d]] w fun e w' => e = .returned (.bool v) ∧ Below w.heap.size w w' := by
  subst h; exact impl_SpotOk_any x y d w hx hy hd

theorem spec_SpotOk_any (x y d : Int) (w : World) (hx : -9223372036854775808 ≤ x ∧ x ≤ 9223372036854775807) (hy : -9223372036854775808 ≤ y ∧ y ≤ 9223372036854775807) (hd : -9223372036854775808 ≤ d ∧ d ≤ 9223372036854775807) :
    Calls Tryz.prog 155 #[.agg #[.int .i64 x, .int .i64 y, .int .i64 d]] w fun e w' => e = .returned (.bool (spotOk x y d)) ∧ Below w.heap.size w w' := by
  have HS := Lib.hid (show (inR d 1 5000000000 && inR x (-1000 * d) (1000 * d) && inR y (-1000 * d) (1000 * d) && decide (gcdL [x, y, d] = 1)) = spotOk x y d from rfl)
  cases h1 : inR d 1 5000000000 with
  | false =>
    go_enter Tryz.func155, Tryz.ntmps155
    go_wp2_with (first | (go_at_call 112; refine (l01In_eq h1).mono ?_; rintro e w' ⟨rfl, rfl⟩))
    go_ret
    exact ⟨ret_bool (by rw [← HS.out, h1]; simp only [Bool.false_and]), (by repeat (first | exact bR | refine bO ?_ | refine bA ?_ | refine bS ?_ | refine bD ?_ | refine bN ?_))⟩
  | true =>
    have q1 := inR_iff.1 h1
    have hw2 : IntKind.i64.wrap (1000 * d) = 1000 * d := by rw [IntKind.wrap_i64]; omega
    have hw1 : IntKind.i64.wrap (-(1000 * d)) = -(1000 * d) := by rw [IntKind.wrap_i64]; omega
    have en : -1000 * d = -(1000 * d) := by omega
    rw [en] at HS
    clear en
    rcases chain2 (inR x (-(1000 * d)) (1000 * d)) (inR y (-(1000 * d)) (1000 * d)) with h2 | ⟨h2, h3⟩ | ⟨h2, h3⟩
    · go_enter Tryz.func155, Tryz.ntmps155
      go_wp2_with (first | (go_at_call 112; refine (l01In_eq (by assumption)).mono ?_; rintro e w' ⟨rfl, rfl⟩))
      ((first | (with_reducible refine wp_region_calm2 (by kernel_rfl) (by kernel_rfl) ?_) | refine wp_region_calm (by kernel_rfl) (by kernel_rfl) ?_); (repeat (go_big_quiet_step (first | (go_at_call 112; exact calm_same (l01In_eq (by assumption)))))); refine wpQuiet_nil ?_; rintro _ ⟨y, rfl⟩)
      go_wp2
      go_ret
      exact ⟨ret_bool (by rw [← HS.out, h1, h2]; simp only [Bool.false_and, Bool.and_false]), (by repeat (first | exact bR | refine bO ?_ | refine bA ?_ | refine bS ?_ | refine bD ?_ | refine bN ?_))⟩
    · go_enter Tryz.func155, Tryz.ntmps155
      go_wp2_with (first | (go_at_call 112; refine (l01In_eq (by assumption)).mono ?_; rintro e w' ⟨rfl, rfl⟩))
      ((first | (with_reducible refine wp_region_calm2 (by kernel_rfl) (by kernel_rfl) ?_) | refine wp_region_calm (by kernel_rfl) (by kernel_rfl) ?_); (repeat (go_big_quiet_step (first | (go_at_call 112; exact calm_same (l01In_eq (by assumption)))))); refine wpQuiet_nil ?_; rintro _ ⟨y, rfl⟩)
      go_wp2
      go_ret
      exact ⟨ret_bool (by rw [← HS.out, h1, h2, h3]; simp only [Bool.false_and, Bool.and_false]), (by repeat (first | exact bR | refine bO ?_ | refine bA ?_ | refine bS ?_ | refine bD ?_ | refine bN ?_))⟩
    · have q2 := inR_iff.1 h2
      have q3 := inR_iff.1 h3
      have hg1 := gcdS_bd x y (by omega) (by omega)
      have FIN := Lib.hid (gcdS3 x y d (by omega) (by omega) (by omega))
      go_enter Tryz.func155, Tryz.ntmps155
      go_wp2_with (first | (go_at_call 112; refine (l01In_eq (by assumption)).mono ?_; rintro e w' ⟨rfl, rfl⟩))
      ((first | (with_reducible refine wp_region_calm2 (by kernel_rfl) (by kernel_rfl) ?_) | refine wp_region_calm (by kernel_rfl) (by kernel_rfl) ?_); (repeat (go_big_quiet_step (first | (go_at_call 112; exact calm_same (l01In_eq (by assumption))) | (go_at_call 114; exact calm_drewN (spec_GcdOf_any _ _ _ (by omega) (by omega) (by omega) (by omega)))))); refine wpQuiet_nil ?_; rintro _ ⟨y, rfl⟩)
      go_wp2
      go_ret
      exact ⟨ret_bool (by rw [← HS.out, h1, h2, h3, FIN.out, nat_beq1]; simp only [Bool.true_and]), (by repeat (first | exact bR | refine bO ?_ | refine bA ?_ | refine bS ?_ | refine bD ?_ | refine bN ?_))⟩
theorem spec_SpotOk_eq {x y d : Int} {v : Bool} {w : World} (h : spotOk x y d = v) (hx : -9223372036854775808 ≤ x ∧ x ≤ 9223372036854775807) (hy : -9223372036854775808 ≤ y ∧ y ≤ 9223372036854775807) (hd : -9223372036854775808 ≤ d ∧ d ≤ 9223372036854775807) :
    Calls Tryz.prog 155 #[.agg #[.int .i64 x, .int .i64 y, .int .i64 d]] w fun e w' => e = .returned (.bool v) ∧ Below w.heap.size w w' := by
  subst h; exact spec_SpotOk_any x y d w hx hy hd

def spotV (p : P3 × Bool) : Value := .tuple #[.agg #[.int .i64 p.1.1, .int .i64 p.1.2.1, .int .i64 p.1.2.2], .bool p.2]
theorem spotOf_bad {x y d : Int} (h : d ≤ 0 ∨ x = -9223372036854775808 ∨ y = -9223372036854775808) : spotOf x y d = ((0, 0, 0), false) := by unfold spotOf; rw [if_pos h]
theorem spotOf_red {x y d a b c : Int} {g : Nat} (h : ¬ (d ≤ 0 ∨ x = -9223372036854775808 ∨ y = -9223372036854775808)) (e : gcdL [x, y, d] = g) (qx : x / (g : Int) = a) (qy : y / (g : Int) = b) (qd : d / (g : Int) = c) :
    spotOf x y d = if spotOk a b c then ((a, b, c), true) else ((0, 0, 0), false) := by unfold spotOf; rw [if_neg h, e, qx, qy, qd]

set_option maxHeartbeats 4000000 in
theorem impl_SpotOf_any (x y d : Int) (w : World) (hx : -9223372036854775808 ≤ x ∧ x ≤ 9223372036854775807) (hy : -9223372036854775808 ≤ y ∧ y ≤ 9223372036854775807) (hd : -9223372036854775808 ≤ d ∧ d ≤ 9223372036854775807) :
    Calls Tryz.prog 108 #[.int .i64 x, .int .i64 y, .int .i64 d] w fun e w' => e = .returned (spotV (spotOf x y d)) ∧ Below w.heap.size w w' := by
  by_cases hb : d ≤ 0 ∨ x = -9223372036854775808 ∨ y = -9223372036854775808
  · rw [spotOf_bad hb]
    have done : ∀ (Z : Prop), Z → Z := fun _ h => h
    by_cases h0 : d ≤ 0
    · clear hb
      go_enter Tryz.func108, Tryz.ntmps108
      go_wp2
      refine bodyPost_ret (v := spotV ((0, 0, 0), false)) (by simp [results, Tryz.results108, go_sem, spotV]) rfl ⟨rfl, ?_⟩
      (repeat (first | exact bR | refine bO ?_ | refine bA ?_ | refine bS ?_ | refine bD ?_ | refine bN ?_))
    · by_cases h1 : x = -9223372036854775808
      · have k1 : decide (x = -9223372036854775808) = true := decide_eq_true h1
        clear hb
        go_enter Tryz.func108, Tryz.ntmps108
        go_wp2_with ((go_at_call 74; refine (isLeast_t (by omega) (by omega)).mono ?_; rintro e w' ⟨rfl, rfl⟩))
        refine bodyPost_ret (v := spotV ((0, 0, 0), false)) (by simp [results, Tryz.results108, go_sem, spotV]) rfl ⟨rfl, ?_⟩
        (repeat (first | exact bR | refine bO ?_ | refine bA ?_ | refine bS ?_ | refine bD ?_ | refine bN ?_))
      · have k1 : decide (x = -9223372036854775808) = false := decide_eq_false h1
        have k2 : y = -9223372036854775808 := by omega
        clear hb
        go_enter Tryz.func108, Tryz.ntmps108
        go_wp2_with (first | (go_at_call 74; refine (isLeast_f (by omega) (by omega)).mono ?_; rintro e w' ⟨rfl, rfl⟩) | (go_at_call 74; refine (isLeast_t (by omega) (by omega)).mono ?_; rintro e w' ⟨rfl, rfl⟩))
        refine bodyPost_ret (v := spotV ((0, 0, 0), false)) (by simp [results, Tryz.results108, go_sem, spotV]) rfl ⟨rfl, ?_⟩
        (repeat (first | exact bR | refine bO ?_ | refine bA ?_ | refine bS ?_ | refine bD ?_ | refine bN ?_))
  · obtain ⟨g, a, b, c, eg, g0, ex, ey, ed, qx, qy, qd, pr, c0⟩ := reduced (x := x) (y := y) (d := d) (by omega)
    have HE := Lib.hid (spotOf_red hb eg qx qy qd)
    have k1 : decide (x = -9223372036854775808) = false := decide_eq_false (by omega)
    have k2 : decide (y = -9223372036854775808) = false := decide_eq_false (by omega)
    have h0 : ¬ d ≤ 0 := by omega
    have ba := mul_le_bd (a := a) (M := 9223372036854775807) g0 (by omega) (by rw [← ex]; omega)
    have bb := mul_le_bd (a := b) (M := 9223372036854775807) g0 (by omega) (by rw [← ey]; omega)
    have bc := mul_le_bd (a := c) (M := 9223372036854775807) g0 (by omega) (by rw [← ed]; omega)
    have hx' : -9223372036854775807 ≤ x ∧ x ≤ 9223372036854775807 := by omega
    have hy' : -9223372036854775807 ≤ y ∧ y ≤ 9223372036854775807 := by omega
    have hd' : -9223372036854775807 ≤ d ∧ d ≤ 9223372036854775807 := by omega
    have EX := Lib.hid ex
    have EY := Lib.hid ey
    have ED := Lib.hid ed
    clear hb qx qy qd ex ey ed pr
    cases hk : spotOk a b c with
    | true =>
      rw [HE.out, hk, if_pos rfl]
      clear HE
      go_enter Tryz.func108, Tryz.ntmps108
      go_wp2_with (first | (go_at_call 74; refine (isLeast_f (by omega) (by omega)).mono ?_; rintro e w' ⟨rfl, rfl⟩) | (go_at_call 74; refine (isLeast_t (by omega) (by omega)).mono ?_; rintro e w' ⟨rfl, rfl⟩) | (go_at_call 70; refine (gcd3_eq eg (by simp) hx hy hd).mono ?_; rintro e w' ⟨rfl, n, rfl⟩) | (go_at_call 131; refine (divided_eq (by exact EX.out) g0 (by omega)).mono ?_; rintro e w' ⟨rfl, rfl⟩) | (go_at_call 131; refine (divided_eq (by exact EY.out) g0 (by omega)).mono ?_; rintro e w' ⟨rfl, rfl⟩) | (go_at_call 131; refine (divided_eq (by exact ED.out) g0 (by omega)).mono ?_; rintro e w' ⟨rfl, rfl⟩) | (go_at_call 31; (first | (with_reducible refine (calls_ov2 (impl_SpotOk_eq hk (by omega) (by omega) (by omega))).mono ?_) | refine (calls_ov (impl_SpotOk_eq hk (by omega) (by omega) (by omega))).mono ?_); rintro e w' ⟨rfl, x, rfl⟩))
      refine bodyPost_ret (v := spotV ((a, b, c), true)) (by simp [results, Tryz.results108, go_sem, spotV]) rfl ⟨rfl, ?_⟩
      (repeat (first | exact bR | refine bO ?_ | refine bA ?_ | refine bS ?_ | refine bD ?_ | refine bN ?_))
    | false =>
      rw [HE.out, hk, if_neg (by simp)]
      clear HE
      go_enter Tryz.func108, Tryz.ntmps108
      go_wp2_with (first | (go_at_call 74; refine (isLeast_f (by omega) (by omega)).mono ?_; rintro e w' ⟨rfl, rfl⟩) | (go_at_call 74; refine (isLeast_t (by omega) (by omega)).mono ?_; rintro e w' ⟨rfl, rfl⟩) | (go_at_call 70; refine (gcd3_eq eg (by simp) hx hy hd).mono ?_; rintro e w' ⟨rfl, n, rfl⟩) | (go_at_call 131; refine (divided_eq (by exact EX.out) g0 (by omega)).mono ?_; rintro e w' ⟨rfl, rfl⟩) | (go_at_call 131; refine (divided_eq (by exact EY.out) g0 (by omega)).mono ?_; rintro e w' ⟨rfl, rfl⟩) | (go_at_call 131; refine (divided_eq (by exact ED.out) g0 (by omega)).mono ?_; rintro e w' ⟨rfl, rfl⟩) | (go_at_call 31; (first | (with_reducible refine (calls_ov2 (impl_SpotOk_eq hk (by omega) (by omega) (by omega))).mono ?_) | refine (calls_ov (impl_SpotOk_eq hk (by omega) (by omega) (by omega))).mono ?_); rintro e w' ⟨rfl, x, rfl⟩))
      refine bodyPost_ret (v := spotV ((0, 0, 0), false)) (by simp [results, Tryz.results108, go_sem, spotV]) rfl ⟨rfl, ?_⟩
      (repeat (first | exact bR | refine bO ?_ | refine bA ?_ | refine bS ?_ | refine bD ?_ | refine bN ?_))

theorem gcdS_least_left (b : Int) : gcdS (-9223372036854775808) b = 0 := by unfold gcdS; rw [if_pos (by omega)]
theorem gcdS_pos {a b : Int} (ha : -9223372036854775807 ≤ a) (hb : -9223372036854775807 ≤ b) (h : b ≠ 0) : 0 < gcdS a b := by
  rw [gcdS_eq a b ha hb]
  have := Nat.gcd_pos_of_pos_right a.natAbs (show 0 < b.natAbs by omega)
  omega
theorem tdiv_exact {n q : Int} {g : Nat} (hg : 0 < g) (h : n = q * (g : Int)) : n.tdiv (g : Int) = q := by
  subst h; rw [Int.mul_tdiv_cancel _ (by omega)]

set_option maxHeartbeats 4000000 in
theorem spec_SpotOf_any (x y d : Int) (w : World) (hx : -9223372036854775808 ≤ x ∧ x ≤ 9223372036854775807) (hy : -9223372036854775808 ≤ y ∧ y ≤ 9223372036854775807) (hd : -9223372036854775808 ≤ d ∧ d ≤ 9223372036854775807) :
    Calls Tryz.prog 153 #[.int .i64 x, .int .i64 y, .int .i64 d] w fun e w' => e = .returned (spotV (spotOf x y d)) ∧ Below w.heap.size w w' := by
  obtain ⟨u, hu⟩ : ∃ u, gcdS x y = u := ⟨_, rfl⟩
  obtain ⟨G, hG⟩ : ∃ G, gcdS u d = G := ⟨_, rfl⟩
  have ub := gcdS_bd x y hx.2 hy.2
  rw [hu] at ub
  by_cases h0 : d ≤ 0
  · rw [spotOf_bad (.inl h0)]
    go_enter Tryz.func153, Tryz.ntmps153
    go_wp2
    refine bodyPost_ret (v := spotV ((0, 0, 0), false)) (by simp [results, Tryz.results153, go_sem, spotV]) rfl ⟨rfl, ?_⟩
    (repeat (first | exact bR | refine bO ?_ | refine bA ?_ | refine bS ?_ | refine bD ?_ | refine bN ?_))
  · by_cases h1 : x = -9223372036854775808
    · rw [spotOf_bad (.inr (.inl h1))]
      have kx : (x != 0) = true := by simp; omega
      have gx : gcdS x d = 0 := by rw [h1]; exact gcdS_least_left d
      clear h1
      go_enter Tryz.func153, Tryz.ntmps153
      go_wp2_with (first | (go_at_call 114; refine (spec_GcdOf_eq (by assumption) (by omega) (by omega) (by omega) (by omega)).mono ?_; rintro e w' ⟨rfl, n, rfl⟩))
      refine bodyPost_ret (v := spotV ((0, 0, 0), false)) (by simp [results, Tryz.results153, go_sem, spotV]) rfl ⟨rfl, ?_⟩
      (repeat (first | exact bR | refine bO ?_ | refine bA ?_ | refine bS ?_ | refine bD ?_ | refine bN ?_))
    · obtain ⟨p, hp⟩ : ∃ p, gcdS x d = p := ⟨_, rfl⟩
      have pp : (p == 0) = false := by have := gcdS_pos (a := x) (b := d) (by omega) (by omega) (by omega); rw [hp] at this; simp; omega
      by_cases h2 : y = -9223372036854775808
      · rw [spotOf_bad (.inr (.inr h2))]
        have ky : (y != 0) = true := by simp; omega
        have gy : gcdS y d = 0 := by rw [h2]; exact gcdS_least_left d
        clear h2
        by_cases hx0 : x = 0
        · have kx : (x != 0) = false := by simp [hx0]
          clear hx0
          go_enter Tryz.func153, Tryz.ntmps153
          go_wp2_with (first | (go_at_call 114; refine (spec_GcdOf_eq (by assumption) (by omega) (by omega) (by omega) (by omega)).mono ?_; rintro e w' ⟨rfl, n, rfl⟩))
          refine bodyPost_ret (v := spotV ((0, 0, 0), false)) (by simp [results, Tryz.results153, go_sem, spotV]) rfl ⟨rfl, ?_⟩
          (repeat (first | exact bR | refine bO ?_ | refine bA ?_ | refine bS ?_ | refine bD ?_ | refine bN ?_))
        · have kx : (x != 0) = true := by simp [hx0]
          go_enter Tryz.func153, Tryz.ntmps153
          go_wp2_with (first | (go_at_call 114; refine (spec_GcdOf_eq (by assumption) (by omega) (by omega) (by omega) (by omega)).mono ?_; rintro e w' ⟨rfl, n, rfl⟩))
          refine bodyPost_ret (v := spotV ((0, 0, 0), false)) (by simp [results, Tryz.results153, go_sem, spotV]) rfl ⟨rfl, ?_⟩
          (repeat (first | exact bR | refine bO ?_ | refine bA ?_ | refine bS ?_ | refine bD ?_ | refine bN ?_))
      · obtain ⟨q, hq⟩ : ∃ q, gcdS y d = q := ⟨_, rfl⟩
        have qq : (q == 0) = false := by have := gcdS_pos (a := y) (b := d) (by omega) (by omega) (by omega); rw [hq] at this; simp; omega
        obtain ⟨g, a, b, c, eg, g0, ex, ey, ed, qx, qy, qd, pr, c0⟩ := reduced (x := x) (y := y) (d := d) (by omega)
        have HE := Lib.hid (spotOf_red (by omega) eg qx qy qd)
        have ba := mul_le_bd (a := a) (M := 9223372036854775807) g0 (by omega) (by rw [← ex]; omega)
        have bb := mul_le_bd (a := b) (M := 9223372036854775807) g0 (by omega) (by rw [← ey]; omega)
        have bc := mul_le_bd (a := c) (M := 9223372036854775807) g0 (by omega) (by rw [← ed]; omega)
        have eG : G = (g : Int) := by rw [← hG, ← hu, gcdS3 x y d (by omega) (by omega) (by omega), eg]
        subst eG
        have tx := tdiv_exact g0 ex
        have ty := tdiv_exact g0 ey
        have td := tdiv_exact g0 ed
        have gz : ((g : Int) == 0) = false := by simp; omega
        have wa : IntKind.i64.wrap a = a := by rw [IntKind.wrap_i64]; omega
        have wb : IntKind.i64.wrap b = b := by rw [IntKind.wrap_i64]; omega
        have wc : IntKind.i64.wrap c = c := by rw [IntKind.wrap_i64]; omega
        clear qx qy qd ex ey ed pr eg
        cases hk : spotOk a b c with
        | true =>
          rw [HE.out, hk, if_pos rfl]
          clear HE
          cases kx : (x != 0) <;> cases ky : (y != 0)
          all_goals
            go_enter Tryz.func153, Tryz.ntmps153
            go_wp2_with (first | (go_at_call 114; refine (spec_GcdOf_eq (by assumption) (by omega) (by omega) (by omega) (by omega)).mono ?_; rintro e w' ⟨rfl, n, rfl⟩))
            go_region
            all_goals go_wp2_with (first | (go_at_call 155; (first | (with_reducible refine (calls_ov2 (spec_SpotOk_eq hk (by omega) (by omega) (by omega))).mono ?_) | refine (calls_ov (spec_SpotOk_eq hk (by omega) (by omega) (by omega))).mono ?_); rintro e w' ⟨rfl, x, rfl⟩))
            refine bodyPost_ret (v := spotV ((a, b, c), true)) (by simp [results, Tryz.results153, go_sem, spotV]) rfl ⟨rfl, ?_⟩
            (repeat (first | exact bR | refine bO ?_ | refine bA ?_ | refine bS ?_ | refine bD ?_ | refine bN ?_))
        | false =>
          rw [HE.out, hk, if_neg (by simp)]
          clear HE
          cases kx : (x != 0) <;> cases ky : (y != 0)
          all_goals
            go_enter Tryz.func153, Tryz.ntmps153
            go_wp2_with (first | (go_at_call 114; refine (spec_GcdOf_eq (by assumption) (by omega) (by omega) (by omega) (by omega)).mono ?_; rintro e w' ⟨rfl, n, rfl⟩))
            go_region
            all_goals go_wp2_with (first | (go_at_call 155; (first | (with_reducible refine (calls_ov2 (spec_SpotOk_eq hk (by omega) (by omega) (by omega))).mono ?_) | refine (calls_ov (spec_SpotOk_eq hk (by omega) (by omega) (by omega))).mono ?_); rintro e w' ⟨rfl, x, rfl⟩))
            refine bodyPost_ret (v := spotV ((0, 0, 0), false)) (by simp [results, Tryz.results153, go_sem, spotV]) rfl ⟨rfl, ?_⟩
            (repeat (first | exact bR | refine bO ?_ | refine bA ?_ | refine bS ?_ | refine bD ?_ | refine bN ?_))
theorem impl_SpotOf_eq {x y d a b c : Int} {ok : Bool} {w : World} (h : Hid (spotOf x y d = ((a, b, c), ok))) (hx : -9223372036854775808 ≤ x ∧ x ≤ 9223372036854775807) (hy : -9223372036854775808 ≤ y ∧ y ≤ 9223372036854775807) (hd : -9223372036854775808 ≤ d ∧ d ≤ 9223372036854775807) :
    Calls Tryz.prog 108 #[.int .i64 x, .int .i64 y, .int .i64 d] w fun e w' => e = .returned (.tuple #[.agg #[.int .i64 a, .int .i64 b, .int .i64 c], .bool ok]) ∧ Below w.heap.size w w' := by
  have := impl_SpotOf_any x y d w hx hy hd
  rw [h.out] at this; exact this
theorem spec_SpotOf_eq {x y d a b c : Int} {ok : Bool} {w : World} (h : Hid (spotOf x y d = ((a, b, c), ok))) (hx : -9223372036854775808 ≤ x ∧ x ≤ 9223372036854775807) (hy : -9223372036854775808 ≤ y ∧ y ≤ 9223372036854775807) (hd : -9223372036854775808 ≤ d ∧ d ≤ 9223372036854775807) :
    Calls Tryz.prog 153 #[.int .i64 x, .int .i64 y, .int .i64 d] w fun e w' => e = .returned (.tuple #[.agg #[.int .i64 a, .int .i64 b, .int .i64 c], .bool ok]) ∧ Below w.heap.size w w' := by
  have := spec_SpotOf_any x y d w hx hy hd
  rw [h.out] at this; exact this
end Go.Proofs.YtabmfaamadbefaaGreat