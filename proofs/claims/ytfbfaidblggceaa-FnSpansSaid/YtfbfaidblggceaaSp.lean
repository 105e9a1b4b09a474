/- Contracts of SpotOk and SpotOf, of the program and of the reference. Condition: the arguments are ints. -/
import Derived.Test.YtfbfaidblggceaaA
import Derived.Test.YtfbfaidblggceaaGeo
set_option linter.unusedSimpArgs false
set_option linter.unusedVariables false
set_option linter.unusedSectionVars false
namespace Go.Proofs.Ytfbfaidblggceaa
open Go.RowKit

theorem mul_le_bd {a M : Int} {g : Nat} (hg : 0 < g) (hM : 0 ≤ M) (h : -M ≤ a * (g : Int) ∧ a * (g : Int) ≤ M) : -M ≤ a ∧ a ≤ M := by
  rcases Int.le_total 0 a with h0 | h0
  · have := Int.mul_le_mul_of_nonneg_left (show (1 : Int) ≤ (g : Int) by omega) h0
    omega
  · have := Int.mul_le_mul_of_nonneg_left (show (1 : Int) ≤ (g : Int) by omega) (show 0 ≤ -a by omega)
    rw [Int.neg_mul, Int.neg_mul] at this
    omega
theorem gcd3s_any (a b c : Int) (B : Nat) (w : World) (hB : B = w.heap.size) (ha : -9223372036854775808 ≤ a ∧ a ≤ 9223372036854775807) (hb : -9223372036854775808 ≤ b ∧ b ≤ 9223372036854775807)
    (hc : -9223372036854775808 ≤ c ∧ c ≤ 9223372036854775807) :
    Calls Try.prog 43 #[.slice (some ⟨B, 0, none⟩) 3 3] (w.alloc (.cells #[.int .i64 a, .int .i64 b, .int .i64 c] 3)) fun e w' =>
      e = .returned (.int .u64 (gcdL [a, b, c])) ∧ ∃ n, w' = (w.alloc (.cells #[.int .i64 a, .int .i64 b, .int .i64 c] 3)).drewN n := by
  subst hB
  refine gcdOfAll_any [a, b, c] w.heap.size 3 _ (by simp) ?_ ?_
  · intro x hx
    simp at hx
    rcases hx with rfl | rfl | rfl <;> assumption
  · intro k hk
    match k, hk with
    | 0, _ => simp [go_sem]
    | 1, _ => simp [go_sem]
    | 2, _ => simp [go_sem]
theorem gcd3_eq {a b c : Int} {B g : Nat} {w : World} (h : gcdL [a, b, c] = g) (hB : B = w.heap.size) (ha : -9223372036854775808 ≤ a ∧ a ≤ 9223372036854775807) (hb : -9223372036854775808 ≤ b ∧ b ≤ 9223372036854775807)
    (hc : -9223372036854775808 ≤ c ∧ c ≤ 9223372036854775807) :
    Calls Try.prog 43 #[.slice (some ⟨B, 0, none⟩) 3 3] (w.alloc (.cells #[.int .i64 a, .int .i64 b, .int .i64 c] 3)) fun e w' =>
      e = .returned (.int .u64 g) ∧ ∃ n, w' = (w.alloc (.cells #[.int .i64 a, .int .i64 b, .int .i64 c] 3)).drewN n := by
  subst h; exact gcd3s_any a b c B w hB ha hb hc
theorem spec_GcdOf_eq {a b v : Int} {w : World} (h : gcdS a b = v) (ha : -9223372036854775808 ≤ a) (hb : -9223372036854775808 ≤ b) (ha' : a ≤ 9223372036854775807) (hb' : b ≤ 9223372036854775807) :
    Calls Try.prog 49 #[.int .i64 a, .int .i64 b] w fun e w' => e = .returned (.int .i64 v) ∧ ∃ n, w' = w.drewN n := by
  subst h; exact spec_GcdOf_any a b w ha hb ha' hb'
theorem leastAbs {n : Int} (hn : -9223372036854775808 ≤ n ∧ n ≤ 9223372036854775807) : ((n.natAbs : Int) == 9223372036854775808) = decide (n = -9223372036854775808) := by
  by_cases h : n = -9223372036854775808
  · subst h; rfl
  · rw [decide_eq_false h]; simp; omega
theorem isLeast_eq {n : Int} {v : Bool} {w : World} (h : decide (n = -9223372036854775808) = v) (hn : -9223372036854775808 ≤ n ∧ n ≤ 9223372036854775807) :
    Calls Try.prog 42 #[.int .i64 n] w fun e w' => e = .returned (.bool v) ∧ w = w' := by
  go_enter Try.func42, Try.ntmps42
  go_wp2_with ((go_at_call 44; refine (magnitude_any n _ hn.1 hn.2).mono ?_; rintro e w' ⟨rfl, rfl⟩))
  go_ret
  exact ⟨ret_bool (by rw [leastAbs hn, h]), rfl⟩
theorem isLeast_f {n : Int} {w : World} (h : n ≠ -9223372036854775808) (hn : -9223372036854775808 ≤ n ∧ n ≤ 9223372036854775807) :
    Calls Try.prog 42 #[.int .i64 n] w fun e w' => e = .returned (.bool false) ∧ w = w' := isLeast_eq (decide_eq_false h) hn
theorem isLeast_t {n : Int} {w : World} (h : n = -9223372036854775808) (hn : -9223372036854775808 ≤ n ∧ n ≤ 9223372036854775807) :
    Calls Try.prog 42 #[.int .i64 n] w fun e w' => e = .returned (.bool true) ∧ w = w' := isLeast_eq (decide_eq_true h) hn
theorem natAbs_div {n q : Int} {g : Nat} (hg : 0 < g) (h : n = q * (g : Int)) : (n.natAbs : Int).tdiv (g : Int) = (q.natAbs : Int) := by
  subst h
  rw [Int.natAbs_mul, Int.natAbs_natCast, Int.natCast_mul, Int.mul_tdiv_cancel _ (by omega)]
def spotV (p : P3 × Bool) : Value := .tuple #[.agg #[.int .i64 p.1.1, .int .i64 p.1.2.1, .int .i64 p.1.2.2], .bool p.2]
theorem spotOf_bad {x y d : Int} (h : d ≤ 0 ∨ x = -9223372036854775808 ∨ y = -9223372036854775808) : spotOf x y d = ((0, 0, 0), false) := by unfold spotOf; rw [if_pos h]
theorem spotOf_red {x y d a b c : Int} {g : Nat} (h : ¬ (d ≤ 0 ∨ x = -9223372036854775808 ∨ y = -9223372036854775808)) (e : gcdL [x, y, d] = g) (qx : x / (g : Int) = a) (qy : y / (g : Int) = b) (qd : d / (g : Int) = c) :
    spotOf x y d = if spotOk a b c then ((a, b, c), true) else ((0, 0, 0), false) := by unfold spotOf; rw [if_neg h, e, qx, qy, qd]

theorem gcdS_least_left (b : Int) : gcdS (-9223372036854775808) b = 0 := by unfold gcdS; rw [if_pos (by omega)]
theorem gcdS_pos {a b : Int} (ha : -9223372036854775807 ≤ a) (hb : -9223372036854775807 ≤ b) (h : b ≠ 0) : 0 < gcdS a b := by
  rw [gcdS_eq a b ha hb]
  have := Nat.gcd_pos_of_pos_right a.natAbs (show 0 < b.natAbs by omega)
  omega
theorem tdiv_exact {n q : Int} {g : Nat} (hg : 0 < g) (h : n = q * (g : Int)) : n.tdiv (g : Int) = q := by
  subst h; rw [Int.mul_tdiv_cancel _ (by omega)]

end Go.Proofs.Ytfbfaidblggceaa
