/- Contracts of RatioOk and RatioCmp in the program and in the reference: the latter's continued fractions compare as cross products do. Condition: the numbers are ints. -/
import Derived.Test.YtfbfaidblggceaaFr
set_option linter.unusedSimpArgs false
set_option linter.unusedVariables false
set_option linter.unusedSectionVars false
namespace Go.Proofs.Ytfbfaidblggceaa
open Go.RowKit Go.Lib

def ratioOk (n d : Int) : Bool := inR d 1 1000000000000000 && inR n (-1000000000000000000) 1000000000000000000 && decide (gcdS n d = 1)
theorem ratioOk_bd {n d : Int} (h : ratioOk n d = true) : (1 ≤ d ∧ d ≤ 1000000000000000) ∧ (-1000000000000000000 ≤ n ∧ n ≤ 1000000000000000000) := by
  simp only [ratioOk, Bool.and_eq_true] at h
  exact ⟨inR_iff.1 h.1.1, inR_iff.1 h.1.2⟩
def ratioCmp (n d m e : Int) : Int := if ratioOk n d = true ∧ ratioOk m e = true then cmpF n d m e else 0

theorem cf_split {a b c d : Int} : a * d - c * b = (a - a / b * b) * d - (c - c / d * d) * b + (a / b - c / d) * (b * d) := by grind
theorem cf_lt {a b c d : Int} (hb : 0 < b) (hd : 0 < d) (h : a / b < c / d) : cmpF a b c d = -1 := by
  have h1 := Int.emod_lt_of_pos a hb
  have h2 := Int.emod_nonneg c (show d ≠ 0 by omega)
  have e1 := Int.mul_ediv_add_emod a b
  have e2 := Int.mul_ediv_add_emod c d
  have : a * d < c * b := by
    have k1 : a < (a / b + 1) * b := by grind
    have k2 : (a / b + 1) * b ≤ c / d * b := Int.mul_le_mul_of_nonneg_right (by omega) (by omega)
    have k3 : c / d * d ≤ c := by grind
    have k4 : a * d < (c / d * b) * d := Int.mul_lt_mul_of_pos_right (by omega) hd
    have k5 : (c / d * d) * b ≤ c * b := Int.mul_le_mul_of_nonneg_right k3 (by omega)
    have : (c / d * b) * d = (c / d * d) * b := by grind
    omega
  unfold cmpF; rw [if_pos this]
theorem cf_gt {a b c d : Int} (hb : 0 < b) (hd : 0 < d) (h : c / d < a / b) : cmpF a b c d = 1 := by
  rw [cmpF_swap, cf_lt hd hb h]; rfl
theorem cf_rest {a b c d : Int} (h : a / b = c / d) : cmpF a b c d = cmpF (a - a / b * b) b (c - c / d * d) d := by
  have := @cf_split a b c d
  rw [h] at this
  unfold cmpF
  rw [h]
  have e : (c / d - c / d) * (b * d) = 0 := by rw [Int.sub_self, Int.zero_mul]
  split <;> split <;> (try split) <;> (try split) <;> omega
theorem cf_turn (r b s d : Int) : cmpF r b s d = - cmpF b r d s := by
  have e1 : r * d = d * r := Int.mul_comm _ _
  have e2 : s * b = b * s := Int.mul_comm _ _
  unfold cmpF
  split <;> split <;> (try split) <;> (try split) <;> omega
theorem cf_zero {r b s d : Int} (hb : 0 < b) (hd : 0 < d) : (r = 0 → s = 0 → cmpF r b s d = 0) ∧ (r = 0 → 0 < s → cmpF r b s d = -1) ∧ (0 < r → s = 0 → cmpF r b s d = 1) := by
  refine ⟨?_, ?_, ?_⟩
  · rintro rfl rfl; unfold cmpF; simp
  · rintro rfl h; have := Int.mul_pos h hb; unfold cmpF; rw [Int.zero_mul, if_pos (by omega)]
  · rintro h rfl; have := Int.mul_pos h hd; unfold cmpF; rw [Int.zero_mul, if_neg (by omega), if_pos (by omega)]
theorem cf_bd {a b : Int} (hb : 0 < b) (ha : -1000000000000000000 ≤ a ∧ a ≤ 1000000000000000000) (hb' : b ≤ 1000000000000000000) :
    0 ≤ a - a / b * b ∧ a - a / b * b < b ∧ -1000000000000000000 ≤ a / b ∧ a / b ≤ 1000000000000000000 ∧ -2000000000000000000 ≤ a / b * b ∧ a / b * b ≤ 1000000000000000000 := by
  have h1 := Int.emod_lt_of_pos a hb
  have h2 := Int.emod_nonneg a (show b ≠ 0 by omega)
  have e1 := Int.mul_ediv_add_emod a b
  have e3 : a / b * b = b * (a / b) := Int.mul_comm _ _
  have q1 : a / b ≤ 1000000000000000000 := by
    rcases Int.lt_or_le 0 (a / b) with h | h
    · have : 1 * (a / b) ≤ b * (a / b) := Int.mul_le_mul_of_nonneg_right (by omega) (by omega)
      omega
    · omega
  have q2 : -1000000000000000000 ≤ a / b := by
    have : -1000000000000000000 ≤ a / b ↔ -1000000000000000000 * b ≤ a := Int.le_ediv_iff_mul_le hb
    rw [this]; omega
  omega

theorem tdiv_floor {a b : Int} (hb : 0 < b) : a / b = if a.tmod b < 0 then a.tdiv b - 1 else a.tdiv b := by
  have e := Int.mul_tdiv_add_tmod a b
  have h1 := Int.tmod_lt_of_pos a hb
  have h2 := Int.lt_tmod_of_pos a hb
  have ee := Int.mul_ediv_add_emod a b
  have g1 := Int.emod_lt_of_pos a hb
  have g2 := Int.emod_nonneg a (show b ≠ 0 by omega)
  have key : ∀ q r : Int, b * q + r = a → 0 ≤ r → r < b → a / b = q := by
    intro q r h h0 hl
    have : b * (a / b - q) = r - a % b := by grind
    rcases Int.lt_trichotomy (a / b - q) 0 with k | k | k
    · have : b * (a / b - q) ≤ b * (-1) := Int.mul_le_mul_of_nonneg_left (by omega) (by omega)
      omega
    · omega
    · have : b * 1 ≤ b * (a / b - q) := Int.mul_le_mul_of_nonneg_left (by omega) (by omega)
      omega
  split
  · exact key _ (a.tmod b + b) (by grind) (by omega) (by omega)
  · exact key _ (a.tmod b) (by omega) (by omega) (by omega)

theorem l02Floor_any (a b : Int) (w : World) (ha : -1000000000000000000 ≤ a ∧ a ≤ 1000000000000000000) (hb : 0 < b ∧ b ≤ 1000000000000000000) :
    Calls Try.prog 48 #[.int .i64 a, .int .i64 b] w fun e w' => e = .returned (.int .i64 (a / b)) ∧ w = w' := by
  have hF := Lib.hid (tdiv_floor (a := a) hb.1)
  have hB := cf_bd hb.1 ha hb.2
  have hQ : a.tdiv b = a / b ∨ a.tdiv b = a / b + 1 := by have := hF.out; split at this <;> omega
  have hb0 : (b == 0) = false := by simp; omega
  have hw1 : IntKind.i64.wrap (a.tdiv b) = a.tdiv b := by rw [IntKind.wrap_i64]; omega
  have hw2 : IntKind.i64.wrap (a.tdiv b - 1) = a.tdiv b - 1 := by rw [IntKind.wrap_i64]; omega
  have hm := Int.tmod_lt_of_pos a hb.1
  have hm2 := Int.lt_tmod_of_pos a hb.1
  have hw3 : IntKind.i64.wrap (a.tmod b) = a.tmod b := by rw [IntKind.wrap_i64]; omega
  by_cases hn : a.tmod b < 0
  · go_enter Try.func48, Try.ntmps48
    go_wp2
    go_ret
    exact ⟨ret_int (by rw [hF.out, if_pos hn]), rfl⟩
  · go_enter Try.func48, Try.ntmps48
    go_wp2
    go_ret
    exact ⟨ret_int (by rw [hF.out, if_neg (by omega)]), rfl⟩

theorem l02Floor_eq {a b q : Int} {w : World} (h : Hid (a / b = q)) (ha : -1000000000000000000 ≤ a ∧ a ≤ 1000000000000000000) (hb : 0 < b ∧ b ≤ 1000000000000000000) :
    Calls Try.prog 48 #[.int .i64 a, .int .i64 b] w fun e w' => e = .returned (.int .i64 q) ∧ w = w' := by
  obtain rfl := h.out; exact l02Floor_any a b w ha hb

theorem spec_RatioOk_any (n d : Int) (w : World) (hn : -9223372036854775808 ≤ n ∧ n ≤ 9223372036854775807) (hd : -9223372036854775808 ≤ d ∧ d ≤ 9223372036854775807) :
    Calls Try.prog 47 #[.agg #[.int .i64 n, .int .i64 d]] w fun e w' => e = .returned (.bool (ratioOk n d)) ∧ Below w.heap.size w w' := by
  have HS := Lib.hid (show (inR d 1 1000000000000000 && inR n (-1000000000000000000) 1000000000000000000 && decide (gcdS n d = 1)) = ratioOk n d from rfl)
  rcases chain2 (inR d 1 1000000000000000) (inR n (-1000000000000000000) 1000000000000000000) with h1 | ⟨h1, h2⟩ | ⟨h1, h2⟩
  all_goals
    go_enter Try.func47, Try.ntmps47
    go_wp2_with (first | (go_at_call 56; refine (l01In_eq (by assumption)).mono ?_; rintro e w' ⟨rfl, rfl⟩) | (go_at_call 49; refine (spec_GcdOf_any _ _ _ (by omega) (by omega) (by omega) (by omega)).mono ?_; rintro e w' ⟨rfl, n, rfl⟩))
    go_ret
    refine ⟨ret_bool ?_, (by repeat (first | exact bR | refine bO ?_ | refine bA ?_ | refine bS ?_ | refine bD ?_ | refine bN ?_))⟩
    rw [← HS.out, h1]
    (try rw [h2])
    first
    | rfl
    | (simp only [Bool.true_and, Bool.false_and, Bool.and_false]; done)

theorem isLeast_any (n : Int) (w : World) (hn : -9223372036854775807 ≤ n ∧ n ≤ 9223372036854775807) :
    Calls Try.prog 42 #[.int .i64 n] w fun e w' => e = .returned (.bool false) ∧ w = w' := by
  have h1 : ((n.natAbs : Int) == 9223372036854775808) = false := by simp; omega
  go_enter Try.func42, Try.ntmps42
  go_wp2_with ((go_at_call 44; refine (magnitude_any _ _ (by omega) (by omega)).mono ?_; rintro e w' ⟨rfl, rfl⟩))
  go_ret
  exact ⟨rfl, rfl⟩

theorem gcd2_any (a b : Int) (B : Nat) (w : World) (hB : B = w.heap.size) (ha : -9223372036854775808 ≤ a ∧ a ≤ 9223372036854775807) (hb : -9223372036854775808 ≤ b ∧ b ≤ 9223372036854775807) :
    Calls Try.prog 43 #[.slice (some ⟨B, 0, none⟩) 2 2] (w.alloc (.cells #[.int .i64 a, .int .i64 b] 3)) fun e w' =>
      e = .returned (.int .u64 (gcdL [a, b])) ∧ ∃ n, w' = (w.alloc (.cells #[.int .i64 a, .int .i64 b] 3)).drewN n := by
  subst hB
  refine gcdOfAll_any [a, b] w.heap.size 2 _ (by simp) ?_ ?_
  · intro x hx
    simp at hx
    rcases hx with rfl | rfl <;> assumption
  · intro k hk
    match k, hk with
    | 0, _ => simp [go_sem]
    | 1, _ => simp [go_sem]

theorem gcdL2 (a b : Int) (ha : -9223372036854775807 ≤ a) (hb : -9223372036854775807 ≤ b) : (gcdL [a, b] : Int) = gcdS a b := by
  rw [gcdS_eq a b ha hb]; simp [gcdL]

theorem impl_GcdOf_any (a b : Int) (w : World) (ha : -9223372036854775807 ≤ a ∧ a ≤ 9223372036854775807) (hb : -9223372036854775807 ≤ b ∧ b ≤ 9223372036854775807) :
    Calls Try.prog 55 #[.int .i64 a, .int .i64 b] w fun e w' => e = .returned (.int .i64 (gcdS a b)) ∧ Below w.heap.size w w' := by
  have HE := gcdL2 a b (by omega) (by omega)
  have hg := gcdS_bd a b (by omega) (by omega)
  have hw : IntKind.i64.wrap (gcdL [a, b] : Int) = (gcdL [a, b] : Int) := by rw [IntKind.wrap_i64]; omega
  go_enter Try.func55, Try.ntmps55
  go_wp2_with (first | (go_at_call 43; refine (gcd2_any _ _ _ _ (by simp) (by omega) (by omega)).mono ?_; rintro e w' ⟨rfl, n, rfl⟩) | (go_at_call 42; refine (isLeast_any _ _ (by omega)).mono ?_; rintro e w' ⟨rfl, rfl⟩))
  go_ret
  exact ⟨rfl, (by repeat (first | exact bR | refine bO ?_ | refine bA ?_ | refine bS ?_ | refine bD ?_ | refine bN ?_))⟩

theorem impl_RatioOk_any (n d : Int) (w : World) (hn : -9223372036854775808 ≤ n ∧ n ≤ 9223372036854775807) (hd : -9223372036854775808 ≤ d ∧ d ≤ 9223372036854775807) :
    Calls Try.prog 41 #[.agg #[.int .i64 n, .int .i64 d]] w fun e w' => e = .returned (.bool (ratioOk n d)) ∧ Below w.heap.size w w' := by
  have HS := Lib.hid (show (inR d 1 1000000000000000 && inR n (-1000000000000000000) 1000000000000000000 && decide (gcdS n d = 1)) = ratioOk n d from rfl)
  rcases chain2 (inR d 1 1000000000000000) (inR n (-1000000000000000000) 1000000000000000000) with h1 | ⟨h1, h2⟩ | ⟨h1, h2⟩
  · go_enter Try.func41, Try.ntmps41
    go_wp2_with (first | (go_at_call 50; refine (inRange_eq (by assumption)).mono ?_; rintro e w' ⟨rfl, rfl⟩))
    go_ret
    exact ⟨ret_bool (by rw [← HS.out, h1]; rfl), (by repeat (first | exact bR | refine bO ?_ | refine bA ?_ | refine bS ?_ | refine bD ?_ | refine bN ?_))⟩
  · go_enter Try.func41, Try.ntmps41
    go_wp2_with (first | (go_at_call 50; refine (inRange_eq (by assumption)).mono ?_; rintro e w' ⟨rfl, rfl⟩))
    go_ret
    exact ⟨ret_bool (by rw [← HS.out, h1, h2]; rfl), (by repeat (first | exact bR | refine bO ?_ | refine bA ?_ | refine bS ?_ | refine bD ?_ | refine bN ?_))⟩
  · have q1 := inR_iff.1 h1
    have q2 := inR_iff.1 h2
    go_enter Try.func41, Try.ntmps41
    go_wp2_with (first | (go_at_call 50; refine (inRange_eq (by assumption)).mono ?_; rintro e w' ⟨rfl, rfl⟩) | (go_at_call 55; (first | (with_reducible refine (calls_ov2 (impl_GcdOf_any _ _ _ (by omega) (by omega))).mono ?_) | refine (calls_ov (impl_GcdOf_any _ _ _ (by omega) (by omega))).mono ?_); rintro e w' ⟨rfl, x, rfl⟩))
    go_ret
    exact ⟨ret_bool (by rw [← HS.out, h1, h2]; rfl), (by repeat (first | exact bR | refine bO ?_ | refine bA ?_ | refine bS ?_ | refine bD ?_ | refine bN ?_))⟩

theorem impl_RatioOk_eq {n d : Int} {w : World} {v : Bool} (h : ratioOk n d = v) (hn : -9223372036854775808 ≤ n ∧ n ≤ 9223372036854775807) (hd : -9223372036854775808 ≤ d ∧ d ≤ 9223372036854775807) :
    Calls Try.prog 41 #[.agg #[.int .i64 n, .int .i64 d]] w fun e w' => e = .returned (.bool v) ∧ Below w.heap.size w w' := by subst h; exact impl_RatioOk_any n d w hn hd
theorem spec_RatioOk_eq {n d : Int} {w : World} {v : Bool} (h : ratioOk n d = v) (hn : -9223372036854775808 ≤ n ∧ n ≤ 9223372036854775807) (hd : -9223372036854775808 ≤ d ∧ d ≤ 9223372036854775807) :
    Calls Try.prog 47 #[.agg #[.int .i64 n, .int .i64 d]] w fun e w' => e = .returned (.bool v) ∧ Below w.heap.size w w' := by subst h; exact spec_RatioOk_any n d w hn hd

set_option maxHeartbeats 4000000 in
theorem spec_RatioCmp_any (n d m e : Int) (w : World) (hn : -9223372036854775808 ≤ n ∧ n ≤ 9223372036854775807) (hd : -9223372036854775808 ≤ d ∧ d ≤ 9223372036854775807) (hm : -9223372036854775808 ≤ m ∧ m ≤ 9223372036854775807) (he : -9223372036854775808 ≤ e ∧ e ≤ 9223372036854775807) :
    Calls Try.prog 23 #[.agg #[.int .i64 n, .int .i64 d], .agg #[.int .i64 m, .int .i64 e]] w fun e' w' => e' = .returned (.int .i64 (ratioCmp n d m e)) ∧ Below w.heap.size w w' := by
  have HS := Lib.hid (show (if ratioOk n d = true ∧ ratioOk m e = true then cmpF n d m e else 0) = ratioCmp n d m e from rfl)
  rcases chain2 (ratioOk n d) (ratioOk m e) with h1 | ⟨h1, h2⟩ | ⟨h1, h2⟩
  · go_enter Try.func23, Try.ntmps23
    go_wp2_with (first | (go_at_call 47; (first | (with_reducible refine (calls_ov2 (spec_RatioOk_eq (by assumption) (by omega) (by omega))).mono ?_) | refine (calls_ov (spec_RatioOk_eq (by assumption) (by omega) (by omega))).mono ?_); rintro e w' ⟨rfl, x, rfl⟩))
    go_ret
    exact ⟨ret_int (by rw [← HS.out, if_neg (by rw [h1]; simp)]), (by repeat (first | exact bR | refine bO ?_ | refine bA ?_ | refine bS ?_ | refine bD ?_ | refine bN ?_))⟩
  · go_enter Try.func23, Try.ntmps23
    go_wp2_with (first | (go_at_call 47; (first | (with_reducible refine (calls_ov2 (spec_RatioOk_eq (by assumption) (by omega) (by omega))).mono ?_) | refine (calls_ov (spec_RatioOk_eq (by assumption) (by omega) (by omega))).mono ?_); rintro e w' ⟨rfl, x, rfl⟩))
    go_ret
    exact ⟨ret_int (by rw [← HS.out, if_neg (by rw [h2]; simp)]), (by repeat (first | exact bR | refine bO ?_ | refine bA ?_ | refine bS ?_ | refine bD ?_ | refine bN ?_))⟩
  · have q1 := ratioOk_bd h1
    have q2 := ratioOk_bd h2
    have HT := Lib.hid (show cmpF n d m e = ratioCmp n d m e by rw [← HS.out, if_pos ⟨h1, h2⟩])
    go_enter Try.func23, Try.ntmps23
    go_wp2_with (first | (go_at_call 47; (first | (with_reducible refine (calls_ov2 (spec_RatioOk_eq (by assumption) (by omega) (by omega))).mono ?_) | refine (calls_ov (spec_RatioOk_eq (by assumption) (by omega) (by omega))).mono ?_); rintro e w' ⟨rfl, x, rfl⟩))
    go_loopw [5, 6, 7, 8, 9, 10, 11, 12, 13] (fun a b c d' s _ _ _ _ wr => ∃ xa xb xc xd xs : Int, a = .int .i64 xa ∧ b = .int .i64 xb ∧ c = .int .i64 xc ∧ d' = .int .i64 xd ∧ s = .int .i64 xs ∧
      (xs = 1 ∨ xs = -1) ∧ (-1000000000000000000 ≤ xa ∧ xa ≤ 1000000000000000000) ∧ (0 < xb ∧ xb ≤ 1000000000000000000) ∧ (-1000000000000000000 ≤ xc ∧ xc ≤ 1000000000000000000) ∧ (0 < xd ∧ xd ≤ 1000000000000000000) ∧
      Hid (xs * cmpF xa xb xc xd = ratioCmp n d m e) ∧ Below w.heap.size w wr) (fun _ b _ _ _ _ _ _ _ _ => (intOf b).toNat)
    case atStart => exact ⟨_, _, _, _, _, rfl, rfl, rfl, rfl, rfl, .inl rfl, by omega, by omega, by omega, by omega, Lib.hid (by rw [Int.one_mul]; exact HT.out), (by repeat (first | exact bR | refine bO ?_ | refine bA ?_ | refine bS ?_ | refine bD ?_ | refine bN ?_))⟩
    case round =>
      obtain ⟨xa, xb, xc, xd, xs, rfl, rfl, rfl, rfl, rfl, hs, ba, bb, bc, bd, HC, hb⟩ := hrel
      have fa := cf_bd bb.1 ba bb.2
      have fc := cf_bd bd.1 bc bd.2
      have hlt := cf_lt (a := xa) (c := xc) bb.1 bd.1
      have hgt := cf_gt (a := xa) (c := xc) bb.1 bd.1
      have hrest := @cf_rest xa xb xc xd
      obtain ⟨p, hp⟩ : ∃ p, xa / xb = p := ⟨_, rfl⟩
      obtain ⟨q, hq⟩ : ∃ q, xc / xd = q := ⟨_, rfl⟩
      have HP := Lib.hid hp
      have HQ := Lib.hid hq
      rw [hp] at fa hlt hgt hrest
      rw [hq] at fc hlt hgt hrest
      clear hp hq
      obtain ⟨ya, hya⟩ : ∃ ya, xa - p * xb = ya := ⟨_, rfl⟩
      obtain ⟨yc, hyc⟩ : ∃ yc, xc - q * xd = yc := ⟨_, rfl⟩
      rw [hya] at fa
      rw [hyc] at fc
      have hsw : IntKind.i64.wrap (-xs) = -xs := by rw [IntKind.wrap_i64]; omega
      have hw1 : IntKind.i64.wrap (p * xb) = p * xb := by rw [IntKind.wrap_i64]; omega
      have hw2 : IntKind.i64.wrap (q * xd) = q * xd := by rw [IntKind.wrap_i64]; omega
      have hw3 : IntKind.i64.wrap (xa - p * xb) = ya := by rw [IntKind.wrap_i64]; omega
      have hw4 : IntKind.i64.wrap (xc - q * xd) = yc := by rw [IntKind.wrap_i64]; omega
      rcases Int.lt_trichotomy p q with k | k | k
      · have HV := Lib.hid (hlt k)
        have hne : (p != q) = true := by simp; omega
        clear hlt hgt hrest hya hyc
        go_wp2_with ((go_at_call 48; refine (l02Floor_eq (by assumption) (by omega) (by omega)).mono ?_; rintro e w' ⟨rfl, rfl⟩))
        go_ret
        exact ⟨ret_int (by rw [← HC.out, HV.out]; omega), hb⟩
      · subst k
        have HV := hrest rfl
        rw [hya, hyc] at HV
        have hz := cf_zero (r := ya) (s := yc) bb.1 bd.1
        have HZ0 := Lib.hid (cf_turn ya xb yc xd)
        replace HV := Lib.hid HV
        clear hlt hgt hrest hya hyc
        by_cases ra : ya = 0
        · have ea : (ya == 0) = true := by simp; omega
          by_cases rc : yc = 0
          · have ec : (yc == 0) = true := by simp; omega
            have HZ := Lib.hid (hz.1 ra rc)
            clear hz ra rc HZ0
            go_wp2_with ((go_at_call 48; refine (l02Floor_eq (by assumption) (by omega) (by omega)).mono ?_; rintro e w' ⟨rfl, rfl⟩))
            go_ret
            exact ⟨ret_int (by rw [← HC.out, HV.out, HZ.out]; omega), hb⟩
          · have ec : (yc == 0) = false := by simp; omega
            have HZ := Lib.hid (hz.2.1 ra (by omega))
            clear hz ra HZ0
            go_wp2_with ((go_at_call 48; refine (l02Floor_eq (by assumption) (by omega) (by omega)).mono ?_; rintro e w' ⟨rfl, rfl⟩))
            go_ret
            exact ⟨ret_int (by rw [← HC.out, HV.out, HZ.out]; omega), hb⟩
        · have ea : (ya == 0) = false := by simp; omega
          by_cases rc : yc = 0
          · have ec : (yc == 0) = true := by simp; omega
            have HZ := Lib.hid (hz.2.2 (by omega) rc)
            clear hz rc HZ0
            go_wp2_with ((go_at_call 48; refine (l02Floor_eq (by assumption) (by omega) (by omega)).mono ?_; rintro e w' ⟨rfl, rfl⟩))
            go_ret
            exact ⟨ret_int (by rw [← HC.out, HV.out, HZ.out]; omega), hb⟩
          · have ec : (yc == 0) = false := by simp; omega
            clear hz
            have HN := Lib.hid (show -xs * cmpF xb ya xd yc = ratioCmp n d m e by rw [← HC.out, HV.out, HZ0.out]; grind)
            go_wp2_with ((go_at_call 48; refine (l02Floor_eq (by assumption) (by omega) (by omega)).mono ?_; rintro e w' ⟨rfl, rfl⟩))
            go_roundw
            case rel => exact ⟨xb, ya, xd, yc, -xs, rfl, rfl, rfl, rfl, rfl, by omega, by omega, by omega, by omega, by omega, HN, hb⟩
            case measure => simp [intOf]; omega
      · have HV := Lib.hid (hgt k)
        have hne : (p != q) = true := by simp; omega
        have hnl : ¬ (p < q) := by omega
        clear hlt hgt hrest hya hyc
        go_wp2_with ((go_at_call 48; refine (l02Floor_eq (by assumption) (by omega) (by omega)).mono ?_; rintro e w' ⟨rfl, rfl⟩))
        go_ret
        exact ⟨ret_int (by rw [← HC.out, HV.out]; omega), hb⟩
end Go.Proofs.Ytfbfaidblggceaa
