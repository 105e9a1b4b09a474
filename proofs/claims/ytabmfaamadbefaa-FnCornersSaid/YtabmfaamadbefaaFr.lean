/- Contracts of math/bits.Mul64 and of the program's comparison of two fractions. Condition: the denominators are positive ints. -/
import Derived.Test.YtabmfaamadbefaaTail
import Derived.Test.YtabmfaamadbefaaGeo
import Derived.Lib.Mul64
import Derived.Laws.Bits64b
set_option linter.unusedSimpArgs false
set_option linter.unusedVariables false
set_option linter.unusedSectionVars false
namespace Go.Proofs.Ytabmfaamadbefaa
open Go.RowKit Go.Lib

namespace Mul64
theorem maskN (a : Nat) (ha : a < 18446744073709551616) : bits .and .u64 (a : Int) 4294967295 = ((a % 4294967296 : Nat) : Int) := by
  have h := bits_and_u64_nat a 4294967295 ha (by omega)
  have e : a &&& 4294967295 = a % 4294967296 := Nat.and_two_pow_sub_one_eq_mod a 32
  rw [e] at h
  exact h
theorem divN (a : Nat) : (a : Int) / 4294967296 = ((a / 4294967296 : Nat) : Int) := by omega
theorem mulN (a b : Nat) : (a : Int) * (b : Int) = ((a * b : Nat) : Int) := (Int.natCast_mul a b).symm
theorem addN (a b : Nat) : (a : Int) + (b : Int) = ((a + b : Nat) : Int) := (Int.natCast_add a b).symm
theorem wrapN (a : Nat) (ha : a < 18446744073709551616) : IntKind.u64.wrap (a : Int) = (a : Int) := by rw [IntKind.wrap_u64]; omega
theorem wrapM (a : Nat) : IntKind.u64.wrap (a : Int) = ((a % 18446744073709551616 : Nat) : Int) := by rw [IntKind.wrap_u64]; omega
end Mul64

def hi64 (x y : Nat) : Nat := x * y / 18446744073709551616
def lo64 (x y : Nat) : Nat := x * y % 18446744073709551616
theorem hl_lt {x y z t : Nat} : hi64 x y < hi64 z t ∨ (hi64 x y = hi64 z t ∧ lo64 x y < lo64 z t) ↔ x * y < z * t := by unfold hi64 lo64; omega

set_option maxHeartbeats 1000000 in
theorem mul64_any (x y : Nat) (hx : x < 18446744073709551616) (hy : y < 18446744073709551616) (w : World) :
    Calls Try.prog 112 #[.int .u64 x, .int .u64 y] w fun e w' => e = .returned (.tuple #[.int .u64 (hi64 x y), .int .u64 (lo64 x y)]) ∧ w = w' := by
  have HR := Lib.hid (show (Ending.returned (.tuple #[.int .u64 ((x * y / 18446744073709551616 : Nat) : Int), .int .u64 ((x * y % 18446744073709551616 : Nat) : Int)])) = .returned (.tuple #[.int .u64 (hi64 x y), .int .u64 (lo64 x y)]) from rfl)
  obtain ⟨bd, bt, bw, hhi⟩ := Lib.mul64_hi x y hx hy
  have ba := Lib.half_mul_le (a := x / 4294967296) (b := y / 4294967296) (by omega) (by omega)
  have bb := Lib.half_mul_le (a := x / 4294967296) (b := y % 4294967296) (by omega) (by omega)
  have bc := Lib.half_mul_le (a := x % 4294967296) (b := y / 4294967296) (by omega) (by omega)
  have ba' : x / 4294967296 * (y / 4294967296) < 18446744073709551616 := by omega
  have bb' : x / 4294967296 * (y % 4294967296) < 18446744073709551616 := by omega
  have bc' : x % 4294967296 * (y / 4294967296) < 18446744073709551616 := by omega
  have bh1 : x / 4294967296 * (y / 4294967296) + (x / 4294967296 * (y % 4294967296) + x % 4294967296 * (y % 4294967296) / 4294967296) / 4294967296 < 18446744073709551616 := by omega
  have bh : x / 4294967296 * (y / 4294967296) + (x / 4294967296 * (y % 4294967296) + x % 4294967296 * (y % 4294967296) / 4294967296) / 4294967296 + ((x / 4294967296 * (y % 4294967296) + x % 4294967296 * (y % 4294967296) / 4294967296) % 4294967296 + x % 4294967296 * (y / 4294967296)) / 4294967296 < 18446744073709551616 := by omega
  go_enter Try.func112, Try.ntmps112
  go_wp2
  simp only [Mul64.maskN x hx, Mul64.maskN y hy, Mul64.divN, Mul64.mulN, Mul64.addN, Mul64.wrapN _ bd, Mul64.wrapN _ bb', Mul64.wrapN _ bt, Mul64.maskN _ bt, Mul64.wrapN _ bc', Mul64.wrapN _ bw, Mul64.wrapN _ ba', Mul64.wrapN _ bh1, Mul64.wrapN _ bh, Mul64.wrapM (x * y)]
  rw [hhi]
  go_ret2
  exact ⟨HR.out, rfl⟩

theorem nat_mul_cast (a b : Int) : ((a.natAbs * b.natAbs : Nat) : Int) = (a.natAbs : Int) * (b.natAbs : Int) := Int.natCast_mul _ _

/-- How the products of magnitudes compare, and what the program answers. -/
theorem cmp_pos {a b c d : Int} (ha : 0 ≤ a) (hb : 0 < b) (hc : 0 ≤ c) (hd : 0 < d) :
    (a.natAbs * d.natAbs < c.natAbs * b.natAbs → cmpF a b c d = -1) ∧ (c.natAbs * b.natAbs < a.natAbs * d.natAbs → cmpF a b c d = 1) ∧ (a.natAbs * d.natAbs = c.natAbs * b.natAbs → cmpF a b c d = 0) := by
  have e1 : ((a.natAbs * d.natAbs : Nat) : Int) = a * d := by rw [nat_mul_cast, Int.natAbs_of_nonneg ha, Int.natAbs_of_nonneg (by omega)]
  have e2 : ((c.natAbs * b.natAbs : Nat) : Int) = c * b := by rw [nat_mul_cast, Int.natAbs_of_nonneg hc, Int.natAbs_of_nonneg (by omega)]
  unfold cmpF
  refine ⟨fun h => ?_, fun h => ?_, fun h => ?_⟩
  · rw [if_pos (by omega)]
  · rw [if_neg (by omega), if_pos (by omega)]
  · rw [if_neg (by omega), if_neg (by omega)]
theorem cmp_neg {a b c d : Int} (ha : a < 0) (hb : 0 < b) (hc : c < 0) (hd : 0 < d) :
    (a.natAbs * d.natAbs < c.natAbs * b.natAbs → cmpF a b c d = 1) ∧ (c.natAbs * b.natAbs < a.natAbs * d.natAbs → cmpF a b c d = -1) ∧ (a.natAbs * d.natAbs = c.natAbs * b.natAbs → cmpF a b c d = 0) := by
  have ea : (a.natAbs : Int) = -a := by omega
  have ec : (c.natAbs : Int) = -c := by omega
  have eb : (b.natAbs : Int) = b := by omega
  have ed : (d.natAbs : Int) = d := by omega
  have e1 : ((a.natAbs * d.natAbs : Nat) : Int) = -(a * d) := by rw [nat_mul_cast, ea, ed, Int.neg_mul]
  have e2 : ((c.natAbs * b.natAbs : Nat) : Int) = -(c * b) := by rw [nat_mul_cast, ec, eb, Int.neg_mul]
  unfold cmpF
  refine ⟨fun h => ?_, fun h => ?_, fun h => ?_⟩
  · rw [if_neg (by omega), if_pos (by omega)]
  · rw [if_pos (by omega)]
  · rw [if_neg (by omega), if_neg (by omega)]
theorem cmp_mixed {a b c d : Int} (hb : 0 < b) (hd : 0 < d) : (a < 0 → 0 ≤ c → cmpF a b c d = -1) ∧ (0 ≤ a → c < 0 → cmpF a b c d = 1) := by
  unfold cmpF
  refine ⟨fun h k => ?_, fun h k => ?_⟩
  · have := Int.mul_neg_of_neg_of_pos h hd
    have := Int.mul_nonneg k (show 0 ≤ b by omega)
    rw [if_pos (by omega)]
  · have := Int.mul_neg_of_neg_of_pos k hb
    have := Int.mul_nonneg h (show 0 ≤ d by omega)
    rw [if_neg (by omega), if_pos (by omega)]

set_option maxHeartbeats 1000000 in
theorem compareFractions_any (a b c d : Int) (w : World) (ha : -9223372036854775808 ≤ a ∧ a ≤ 9223372036854775807) (hb : 0 < b ∧ b ≤ 9223372036854775807) (hc : -9223372036854775808 ≤ c ∧ c ≤ 9223372036854775807) (hd : 0 < d ∧ d ≤ 9223372036854775807) :
    Calls Try.prog 97 #[.int .i64 a, .int .i64 b, .int .i64 c, .int .i64 d] w fun e w' => e = .returned (.int .i64 (cmpF a b c d)) ∧ w = w' := by
  have mx := cmp_mixed (a := a) (c := c) hb.1 hd.1
  by_cases sa : a < 0 <;> by_cases sc : c < 0
  · have cn := cmp_neg sa hb.1 sc hd.1
    have hl1 := @hl_lt a.natAbs d.natAbs c.natAbs b.natAbs
    have hl2 := @hl_lt c.natAbs b.natAbs a.natAbs d.natAbs
    have cases5 : (hi64 c.natAbs b.natAbs < hi64 a.natAbs d.natAbs) ∨ (¬ hi64 c.natAbs b.natAbs < hi64 a.natAbs d.natAbs ∧ hi64 a.natAbs d.natAbs < hi64 c.natAbs b.natAbs) ∨ (hi64 a.natAbs d.natAbs = hi64 c.natAbs b.natAbs ∧ lo64 c.natAbs b.natAbs < lo64 a.natAbs d.natAbs) ∨ (hi64 a.natAbs d.natAbs = hi64 c.natAbs b.natAbs ∧ ¬ lo64 c.natAbs b.natAbs < lo64 a.natAbs d.natAbs ∧ lo64 a.natAbs d.natAbs < lo64 c.natAbs b.natAbs) ∨ (hi64 a.natAbs d.natAbs = hi64 c.natAbs b.natAbs ∧ ¬ lo64 c.natAbs b.natAbs < lo64 a.natAbs d.natAbs ∧ ¬ lo64 a.natAbs d.natAbs < lo64 c.natAbs b.natAbs) := by omega
    rcases cases5 with k1 | ⟨k1, k2⟩ | ⟨ke, k1⟩ | ⟨ke, k1, k2⟩ | ⟨ke, k1, k2⟩
    · have HS := Lib.hid (cn.2.1 (hl2.1 (.inl k1)))
      clear cn mx hl1 hl2
      have n1 : ¬ hi64 a.natAbs d.natAbs < hi64 c.natAbs b.natAbs := by omega
      have n2 : ((hi64 a.natAbs d.natAbs : Int) == (hi64 c.natAbs b.natAbs : Int)) = false := by simp; omega
      go_enter Try.func97, Try.ntmps97
      go_wp2_with (first | (go_at_call 98; refine (magnitude_any _ _ (by omega) (by omega)).mono ?_; rintro e w' ⟨rfl, rfl⟩) | (go_at_call 112; refine (mul64_any _ _ (by omega) (by omega) _).mono ?_; rintro e w' ⟨rfl, rfl⟩))
      go_ret
      exact ⟨ret_int HS.out.symm, rfl⟩
    · have HS := Lib.hid (cn.1 (hl1.1 (.inl k2)))
      clear cn mx hl1 hl2
      have n2 : ((hi64 a.natAbs d.natAbs : Int) == (hi64 c.natAbs b.natAbs : Int)) = false := by simp; omega
      go_enter Try.func97, Try.ntmps97
      go_wp2_with (first | (go_at_call 98; refine (magnitude_any _ _ (by omega) (by omega)).mono ?_; rintro e w' ⟨rfl, rfl⟩) | (go_at_call 112; refine (mul64_any _ _ (by omega) (by omega) _).mono ?_; rintro e w' ⟨rfl, rfl⟩))
      go_ret
      exact ⟨ret_int HS.out.symm, rfl⟩
    · have HS := Lib.hid (cn.2.1 (hl2.1 (.inr ⟨ke.symm, k1⟩)))
      clear cn mx hl1 hl2
      have n1 : ¬ hi64 a.natAbs d.natAbs < hi64 c.natAbs b.natAbs := by omega
      have n3 : ¬ hi64 c.natAbs b.natAbs < hi64 a.natAbs d.natAbs := by omega
      have n2 : ((hi64 a.natAbs d.natAbs : Int) == (hi64 c.natAbs b.natAbs : Int)) = true := by simp; omega
      have n4 : ¬ lo64 a.natAbs d.natAbs < lo64 c.natAbs b.natAbs := by omega
      clear ke
      go_enter Try.func97, Try.ntmps97
      go_wp2_with (first | (go_at_call 98; refine (magnitude_any _ _ (by omega) (by omega)).mono ?_; rintro e w' ⟨rfl, rfl⟩) | (go_at_call 112; refine (mul64_any _ _ (by omega) (by omega) _).mono ?_; rintro e w' ⟨rfl, rfl⟩))
      go_ret
      exact ⟨ret_int HS.out.symm, rfl⟩
    · have HS := Lib.hid (cn.1 (hl1.1 (.inr ⟨ke, k2⟩)))
      clear cn mx hl1 hl2
      have n1 : ¬ hi64 a.natAbs d.natAbs < hi64 c.natAbs b.natAbs := by omega
      have n3 : ¬ hi64 c.natAbs b.natAbs < hi64 a.natAbs d.natAbs := by omega
      have n2 : ((hi64 a.natAbs d.natAbs : Int) == (hi64 c.natAbs b.natAbs : Int)) = true := by simp; omega
      clear ke
      go_enter Try.func97, Try.ntmps97
      go_wp2_with (first | (go_at_call 98; refine (magnitude_any _ _ (by omega) (by omega)).mono ?_; rintro e w' ⟨rfl, rfl⟩) | (go_at_call 112; refine (mul64_any _ _ (by omega) (by omega) _).mono ?_; rintro e w' ⟨rfl, rfl⟩))
      go_ret
      exact ⟨ret_int HS.out.symm, rfl⟩
    · have HS := Lib.hid (cn.2.2 (by have := hl1; have := hl2; omega))
      clear cn mx hl1 hl2
      have n1 : ¬ hi64 a.natAbs d.natAbs < hi64 c.natAbs b.natAbs := by omega
      have n3 : ¬ hi64 c.natAbs b.natAbs < hi64 a.natAbs d.natAbs := by omega
      have n2 : ((hi64 a.natAbs d.natAbs : Int) == (hi64 c.natAbs b.natAbs : Int)) = true := by simp; omega
      clear ke
      go_enter Try.func97, Try.ntmps97
      go_wp2_with (first | (go_at_call 98; refine (magnitude_any _ _ (by omega) (by omega)).mono ?_; rintro e w' ⟨rfl, rfl⟩) | (go_at_call 112; refine (mul64_any _ _ (by omega) (by omega) _).mono ?_; rintro e w' ⟨rfl, rfl⟩))
      go_ret
      exact ⟨ret_int HS.out.symm, rfl⟩
  · have HS := Lib.hid (mx.1 sa (by omega))
    clear mx
    go_enter Try.func97, Try.ntmps97
    go_wp2
    go_ret
    exact ⟨ret_int HS.out.symm, rfl⟩
  · have HS := Lib.hid (mx.2 (by omega) sc)
    clear mx
    go_enter Try.func97, Try.ntmps97
    go_wp2
    go_ret
    exact ⟨ret_int HS.out.symm, rfl⟩
  · have cn := cmp_pos (a := a) (c := c) (by omega) hb.1 (by omega) hd.1
    have hl1 := @hl_lt a.natAbs d.natAbs c.natAbs b.natAbs
    have hl2 := @hl_lt c.natAbs b.natAbs a.natAbs d.natAbs
    have cases5 : (hi64 c.natAbs b.natAbs < hi64 a.natAbs d.natAbs) ∨ (¬ hi64 c.natAbs b.natAbs < hi64 a.natAbs d.natAbs ∧ hi64 a.natAbs d.natAbs < hi64 c.natAbs b.natAbs) ∨ (hi64 a.natAbs d.natAbs = hi64 c.natAbs b.natAbs ∧ lo64 c.natAbs b.natAbs < lo64 a.natAbs d.natAbs) ∨ (hi64 a.natAbs d.natAbs = hi64 c.natAbs b.natAbs ∧ ¬ lo64 c.natAbs b.natAbs < lo64 a.natAbs d.natAbs ∧ lo64 a.natAbs d.natAbs < lo64 c.natAbs b.natAbs) ∨ (hi64 a.natAbs d.natAbs = hi64 c.natAbs b.natAbs ∧ ¬ lo64 c.natAbs b.natAbs < lo64 a.natAbs d.natAbs ∧ ¬ lo64 a.natAbs d.natAbs < lo64 c.natAbs b.natAbs) := by omega
    rcases cases5 with k1 | ⟨k1, k2⟩ | ⟨ke, k1⟩ | ⟨ke, k1, k2⟩ | ⟨ke, k1, k2⟩
    · have HS := Lib.hid (cn.2.1 (hl2.1 (.inl k1)))
      clear cn mx hl1 hl2
      have n1 : ¬ hi64 a.natAbs d.natAbs < hi64 c.natAbs b.natAbs := by omega
      have n2 : ((hi64 a.natAbs d.natAbs : Int) == (hi64 c.natAbs b.natAbs : Int)) = false := by simp; omega
      go_enter Try.func97, Try.ntmps97
      go_wp2_with (first | (go_at_call 98; refine (magnitude_any _ _ (by omega) (by omega)).mono ?_; rintro e w' ⟨rfl, rfl⟩) | (go_at_call 112; refine (mul64_any _ _ (by omega) (by omega) _).mono ?_; rintro e w' ⟨rfl, rfl⟩))
      go_ret
      exact ⟨ret_int HS.out.symm, rfl⟩
    · have HS := Lib.hid (cn.1 (hl1.1 (.inl k2)))
      clear cn mx hl1 hl2
      have n2 : ((hi64 a.natAbs d.natAbs : Int) == (hi64 c.natAbs b.natAbs : Int)) = false := by simp; omega
      go_enter Try.func97, Try.ntmps97
      go_wp2_with (first | (go_at_call 98; refine (magnitude_any _ _ (by omega) (by omega)).mono ?_; rintro e w' ⟨rfl, rfl⟩) | (go_at_call 112; refine (mul64_any _ _ (by omega) (by omega) _).mono ?_; rintro e w' ⟨rfl, rfl⟩))
      go_ret
      exact ⟨ret_int HS.out.symm, rfl⟩
    · have HS := Lib.hid (cn.2.1 (hl2.1 (.inr ⟨ke.symm, k1⟩)))
      clear cn mx hl1 hl2
      have n1 : ¬ hi64 a.natAbs d.natAbs < hi64 c.natAbs b.natAbs := by omega
      have n3 : ¬ hi64 c.natAbs b.natAbs < hi64 a.natAbs d.natAbs := by omega
      have n2 : ((hi64 a.natAbs d.natAbs : Int) == (hi64 c.natAbs b.natAbs : Int)) = true := by simp; omega
      have n4 : ¬ lo64 a.natAbs d.natAbs < lo64 c.natAbs b.natAbs := by omega
      clear ke
      go_enter Try.func97, Try.ntmps97
      go_wp2_with (first | (go_at_call 98; refine (magnitude_any _ _ (by omega) (by omega)).mono ?_; rintro e w' ⟨rfl, rfl⟩) | (go_at_call 112; refine (mul64_any _ _ (by omega) (by omega) _).mono ?_; rintro e w' ⟨rfl, rfl⟩))
      go_ret
      exact ⟨ret_int HS.out.symm, rfl⟩
    · have HS := Lib.hid (cn.1 (hl1.1 (.inr ⟨ke, k2⟩)))
      clear cn mx hl1 hl2
      have n1 : ¬ hi64 a.natAbs d.natAbs < hi64 c.natAbs b.natAbs := by omega
      have n3 : ¬ hi64 c.natAbs b.natAbs < hi64 a.natAbs d.natAbs := by omega
      have n2 : ((hi64 a.natAbs d.natAbs : Int) == (hi64 c.natAbs b.natAbs : Int)) = true := by simp; omega
      clear ke
      go_enter Try.func97, Try.ntmps97
      go_wp2_with (first | (go_at_call 98; refine (magnitude_any _ _ (by omega) (by omega)).mono ?_; rintro e w' ⟨rfl, rfl⟩) | (go_at_call 112; refine (mul64_any _ _ (by omega) (by omega) _).mono ?_; rintro e w' ⟨rfl, rfl⟩))
      go_ret
      exact ⟨ret_int HS.out.symm, rfl⟩
    · have HS := Lib.hid (cn.2.2 (by have := hl1; have := hl2; omega))
      clear cn mx hl1 hl2
      have n1 : ¬ hi64 a.natAbs d.natAbs < hi64 c.natAbs b.natAbs := by omega
      have n3 : ¬ hi64 c.natAbs b.natAbs < hi64 a.natAbs d.natAbs := by omega
      have n2 : ((hi64 a.natAbs d.natAbs : Int) == (hi64 c.natAbs b.natAbs : Int)) = true := by simp; omega
      clear ke
      go_enter Try.func97, Try.ntmps97
      go_wp2_with (first | (go_at_call 98; refine (magnitude_any _ _ (by omega) (by omega)).mono ?_; rintro e w' ⟨rfl, rfl⟩) | (go_at_call 112; refine (mul64_any _ _ (by omega) (by omega) _).mono ?_; rintro e w' ⟨rfl, rfl⟩))
      go_ret
      exact ⟨ret_int HS.out.symm, rfl⟩
end Go.Proofs.Ytabmfaamadbefaa
