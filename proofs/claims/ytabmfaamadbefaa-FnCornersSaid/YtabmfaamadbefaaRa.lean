/- Contracts of RatioOk and RatioCmp in the program and in the reference: the latter's continued fractions compare as cross products do. Condition: the numbers are ints. -/
import Derived.Test.YtabmfaamadbefaaFr
set_option linter.unusedSimpArgs false
set_option linter.unusedVariables false
set_option linter.unusedSectionVars false
namespace Go.Proofs.Ytabmfaamadbefaa
open Go.RowKit Go.Lib

def ratioOk (n d : Int) : Bool := inR d 1 1000000000000000 && inR n (-1000000000000000000) 1000000000000000000 && decide (gcdS n d = 1)
theorem ratioOk_bd {n d : Int} (h : ratioOk n d = true) : (1 ≤ d ∧ d ≤ 1000000000000000) ∧ (-1000000000000000000 ≤ n ∧ n ≤ 1000000000000000000) := by
  simp only [ratioOk, Bool.and_eq_true] at h
  exact ⟨inR_iff.1 h.1.1, inR_iff.1 h.1.2⟩
def ratioCmp (n d m e : Int) : Int := if ratioOk n d = true ∧ ratioOk m e = true then cmpF n d m e else 0

theorem cf_split {a b c d : Int} : a * d - c * b = (a - a / b * b) * d - (c - c / d * d) * b + (a / b - c / d) * (b * d) := by grind
theorem cf_lt {a b c d : Int} (hb : 0 < b) (hd : 0 < d) (h : a / b < c / d) : cmpF a b c d = -1 := by
  have h1 := Int.emod_lt_of_pos a hb
  have h2 := Int.emod_nonneg c (show d ≠ 0 by omega)
  have e1 := Int.mul_ediv_add_emod a b
  have e2 := Int.mul_ediv_add_emod c d
  have : a * d < c * b := by
    have k1 : a < (a / b + 1) * b := by grind
    have k2 : (a / b + 1) * b ≤ c / d * b := Int.mul_le_mul_of_nonneg_right (by omega) (by omega)
    have k3 : c / d * d ≤ c := by grind
    have k4 : a * d < (c / d * b) * d := Int.mul_lt_mul_of_pos_right (by omega) hd
    have k5 : (c / d * d) * b ≤ c * b := Int.mul_le_mul_of_nonneg_right k3 (by omega)
    have : (c / d * b) * d = (c / d * d) * b := by grind
    omega
  unfold cmpF; rw [if_pos this]
theorem cf_gt {a b c d : Int} (hb : 0 < b) (hd : 0 < d) (h : c / d < a / b) : cmpF a b c d = 1 := by
  rw [cmpF_swap, cf_lt hd hb h]; rfl
theorem cf_rest {a b c d : Int} (h : a / b = c / d) : cmpF a b c d = cmpF (a - a / b * b) b (c - c / d * d) d := by
  have := @cf_split a b c d
  rw [h] at this
  unfold cmpF
  rw [h]
  have e : (c / d - c / d) * (b * d) = 0 := by rw [Int.sub_self, Int.zero_mul]
  split <;> split <;> (try split) <;> (try split) <;> omega
theorem cf_turn (r b s d : Int) : cmpF r b s d = - cmpF b r d s := by
  have e1 : r * d = d * r := Int.mul_comm _ _
  have e2 : s * b = b * s := Int.mul_comm _ _
  unfold cmpF
  split <;> split <;> (try split) <;> (try split) <;> omega
theorem cf_zero {r b s d : Int} (hb : 0 < b) (hd : 0 < d) : (r = 0 → s = 0 → cmpF r b s d = 0) ∧ (r = 0 → 0 < s → cmpF r b s d = -1) ∧ (0 < r → s = 0 → cmpF r b s d = 1) := by
  refine ⟨?_, ?_, ?_⟩
  · rintro rfl rfl; unfold cmpF; simp
  · rintro rfl h; have := Int.mul_pos h hb; unfold cmpF; rw [Int.zero_mul, if_pos (by omega)]
  · rintro h rfl; have := Int.mul_pos h hd; unfold cmpF; rw [Int.zero_mul, if_neg (by omega), if_pos (by omega)]
theorem cf_bd {a b : Int} (hb : 0 < b) (ha : -1000000000000000000 ≤ a ∧ a ≤ 1000000000000000000) (hb' : b ≤ 1000000000000000000) :
    0 ≤ a - a / b * b ∧ a - a / b * b < b ∧ -1000000000000000000 ≤ a / b ∧ a / b ≤ 1000000000000000000 ∧ -2000000000000000000 ≤ a / b * b ∧ a / b * b ≤ 1000000000000000000 := by
  have h1 := Int.emod_lt_of_pos a hb
  have h2 := Int.emod_nonneg a (show b ≠ 0 by omega)
  have e1 := Int.mul_ediv_add_emod a b
  have e3 : a / b * b = b * (a / b) := Int.mul_comm _ _
  have q1 : a / b ≤ 1000000000000000000 := by
    rcases Int.lt_or_le 0 (a / b) with h | h
    · have : 1 * (a / b) ≤ b * (a / b) := Int.mul_le_mul_of_nonneg_right (by omega) (by omega)
      omega
    · omega
  have q2 : -1000000000000000000 ≤ a / b := by
    have : -1000000000000000000 ≤ a / b ↔ -1000000000000000000 * b ≤ a := Int.le_ediv_iff_mul_le hb
    rw [this]; omega
  omega

theorem tdiv_floor {a b : Int} (hb : 0 < b) : a / b = if a.tmod b < 0 then a.tdiv b - 1 else a.tdiv b := by
  have e := Int.mul_tdiv_add_tmod a b
  have h1 := Int.tmod_lt_of_pos a hb
  have h2 := Int.lt_tmod_of_pos a hb
  have ee := Int.mul_ediv_add_emod a b
  have g1 := Int.emod_lt_of_pos a hb
  have g2 := Int.emod_nonneg a (show b ≠ 0 by omega)
  have key : ∀ q r : Int, b * q + r = a → 0 ≤ r → r < b → a / b = q := by
    intro q r h h0 hl
    have : b * (a / b - q) = r - a % b := by grind
    rcases Int.lt_trichotomy (a / b - q) 0 with k | k | k
    · have : b * (a / b - q) ≤ b * (-1) := Int.mul_le_mul_of_nonneg_left (by omega) (by omega)
      omega
    · omega
    · have : b * 1 ≤ b * (a / b - q) := Int.mul_le_mul_of_nonneg_left (by omega) (by omega)
      omega
  split
  · exact key _ (a.tmod b + b) (by grind) (by omega) (by omega)
  · exact key _ (a.tmod b) (by omega) (by omega) (by omega)

theorem isLeast_any (n : Int) (w : World) (hn : -9223372036854775807 ≤ n ∧ n ≤ 9223372036854775807) :
    Calls Try.prog 74 #[.int .i64 n] w fun e w' => e = .returned (.bool false) ∧ w = w' := by
  have h1 : ((n.natAbs : Int) == 9223372036854775808) = false := by simp; omega
  go_enter Try.func74, Try.ntmps74
  go_wp2_with ((go_at_call 98; refine (magnitude_any _ _ (by omega) (by omega)).mono ?_; rintro e w' ⟨rfl, rfl⟩))
  go_ret
  exact ⟨rfl, rfl⟩

theorem gcd2_any (a b : Int) (B : Nat) (w : World) (hB : B = w.heap.size) (ha : -9223372036854775808 ≤ a ∧ a ≤ 9223372036854775807) (hb : -9223372036854775808 ≤ b ∧ b ≤ 9223372036854775807) :
    Calls Try.prog 70 #[.slice (some ⟨B, 0, none⟩) 2 2] (w.alloc (.cells #[.int .i64 a, .int .i64 b] 3)) fun e w' =>
      e = .returned (.int .u64 (gcdL [a, b])) ∧ ∃ n, w' = (w.alloc (.cells #[.int .i64 a, .int .i64 b] 3)).drewN n := by
  subst hB
  refine gcdOfAll_any [a, b] w.heap.size 2 _ (by simp) ?_ ?_
  · intro x hx
    simp at hx
    rcases hx with rfl | rfl <;> assumption
  · intro k hk
    match k, hk with
    | 0, _ => simp [go_sem]
    | 1, _ => simp [go_sem]

theorem gcdL2 (a b : Int) (ha : -9223372036854775807 ≤ a) (hb : -9223372036854775807 ≤ b) : (gcdL [a, b] : Int) = gcdS a b := by
  rw [gcdS_eq a b ha hb]; simp [gcdL]

end Go.Proofs.Ytabmfaamadbefaa
