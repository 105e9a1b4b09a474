/- Contracts of the small functions on numbers. Condition: the numbers are ints. -/
import Derived.Test.YtabmfaamadbefaaGreatSup
import Derived.Test.YtabmfaamadbefaaGreatWords
import Derived.Test.YtabmfaamadbefaaGreatRows
namespace Go.Proofs.YtabmfaamadbefaaGreat
open Go.RowKit
theorem l01In_any (n a b : Int) (w : World) :
    Calls Tryz.prog 112 #[.int .i64 n, .int .i64 a, .int .i64 b] w fun e w' => e = .returned (.bool (inR n a b)) ∧ w = w' := by
  unfold inR
  by_cases h1 : a ≤ n
  · by_cases h2 : n ≤ b
    all_goals
      go_enter Tryz.func112, Tryz.ntmps112
      go_wp2
      go_ret
      exact ⟨by simp; omega, rfl⟩
  · go_enter Tryz.func112, Tryz.ntmps112
    go_wp2
    go_ret
    exact ⟨by simp; omega, rfl⟩

theorem l01In_eq {n a b : Int} {v : Bool} {w : World} (h : inR n a b = v) :
    Calls Tryz.prog 112 #[.int .i64 n, .int .i64 a, .int .i64 b] w fun e w' => e = .returned (.bool v) ∧ w = w' := by
  subst h; exact l01In_any n a b w

theorem inRange_any (n a b : Int) (w : World) :
    Calls Tryz.prog 60 #[.int .i64 n, .int .i64 a, .int .i64 b] w fun e w' => e = .returned (.bool (inR n a b)) ∧ w = w' := by
  unfold inR
  by_cases h1 : a ≤ n
  · by_cases h2 : n ≤ b
    all_goals
      go_enter Tryz.func60, Tryz.ntmps60
      go_wp2
      go_ret
      exact ⟨by simp; omega, rfl⟩
  · go_enter Tryz.func60, Tryz.ntmps60
    go_wp2
    go_ret
    exact ⟨by simp; omega, rfl⟩

theorem inRange_eq {n a b : Int} {v : Bool} {w : World} (h : inR n a b = v) :
    Calls Tryz.prog 60 #[.int .i64 n, .int .i64 a, .int .i64 b] w fun e w' => e = .returned (.bool v) ∧ w = w' := by
  subst h; exact inRange_any n a b w

theorem l02Turn_any (a b : Int) (w : World) (hb : 0 < b) (ha : 0 ≤ a) :
    Calls Tryz.prog 136 #[.int .i64 a, .int .i64 b] w fun e w' => e = .returned (.tuple #[.int .i64 b, .int .i64 (a % b)]) ∧ ∃ n, w' = w.drewN n := by
  have h1 : (b == 0) = false := by simp; omega
  go_enter Tryz.func136, Tryz.ntmps136
  go_wp2
  go_quiet (fail)
  go_wp2
  go_ret2
  exact ⟨rfl, _, rfl⟩


theorem spec_GcdOf_any (a b : Int) (w : World) (ha : -9223372036854775808 ≤ a) (hb : -9223372036854775808 ≤ b) (ha' : a ≤ 9223372036854775807) (hb' : b ≤ 9223372036854775807) :
    Calls Tryz.prog 114 #[.int .i64 a, .int .i64 b] w fun e w' => e = .returned (.int .i64 (gcdS a b)) ∧ ∃ n, w' = w.drewN n := by
  by_cases h1 : a < -9223372036854775807
  · have HS := Lib.hid (show 0 = gcdS a b by unfold gcdS; rw [if_pos (.inl h1)])
    go_enter Tryz.func114, Tryz.ntmps114
    go_wp2
    go_ret
    exact ⟨ret_int HS.out, 0, rfl⟩
  by_cases h2 : b < -9223372036854775807
  · have HS := Lib.hid (show 0 = gcdS a b by unfold gcdS; rw [if_pos (.inr h2)])
    go_enter Tryz.func114, Tryz.ntmps114
    go_wp2
    go_ret
    exact ⟨ret_int HS.out, 0, rfl⟩
  have HS := Lib.hid (show (Nat.gcd a.natAbs b.natAbs : Int) = gcdS a b by unfold gcdS; rw [if_neg (by omega)]; rfl)
  go_enter Tryz.func114, Tryz.ntmps114
  go_wp2
  all_goals
    go_loopw [0, 1] (fun t0 t1 wr => ∃ x y : Nat, t0 = .int .i64 x ∧ t1 = .int .i64 y ∧ x ≤ 9223372036854775807 ∧ y ≤ 9223372036854775807 ∧ Hid (Nat.gcd x y = Nat.gcd a.natAbs b.natAbs) ∧ ∃ n, wr = w.drewN n) (fun _ t1 _ => (intOf t1).toNat)
    case atStart => exact ⟨a.natAbs, b.natAbs, int_eq (by omega), int_eq (by omega), by omega, by omega, Lib.hid rfl, 0, rfl⟩
    case round =>
      obtain ⟨x, y, rfl, rfl, hx, hy, hg, n, rfl⟩ := hrel
      by_cases hy0 : y = 0
      · subst hy0
        go_wp2
        go_ret
        refine ⟨ret_int ?_, _, rfl⟩
        rw [← HS.out, ← hg.out]; simp
      · have h3 : ((y : Int) == 0) = false := by simp; omega
        have h4 : ((y : Int) != 0) = true := by simp; omega
        go_wp2_with (go_at_call 136; refine (l02Turn_any _ _ _ (by omega) (by omega)).mono ?_; rintro e w' ⟨rfl, m, rfl⟩)
        have hG := Lib.hid (gcd_step x y)
        go_roundw
        case rel => exact ⟨y, x % y, rfl, by go_num, hy, by have := Nat.mod_lt x (Nat.pos_of_ne_zero hy0); omega, Lib.hid (hG.out.trans hg.out), _, rfl⟩
        case measure => simp [intOf]; have := Nat.mod_lt x (Nat.pos_of_ne_zero hy0); omega


theorem magnitude_any (n : Int) (w : World) (ha : -9223372036854775808 ≤ n) (ha' : n ≤ 9223372036854775807) :
    Calls Tryz.prog 75 #[.int .i64 n] w fun e w' => e = .returned (.int .u64 n.natAbs) ∧ w = w' := by
  by_cases h1 : n < 0
  · go_enter Tryz.func75, Tryz.ntmps75
    go_wp2
    go_ret
    exact ⟨ret_int (by first | omega | (simp [IntKind.wrap_u64]; omega)), rfl⟩
  · go_enter Tryz.func75, Tryz.ntmps75
    go_wp2
    go_ret
    exact ⟨ret_int (by first | omega | (simp [IntKind.wrap_u64]; omega)), rfl⟩

set_option maxHeartbeats 400000 in
theorem gcdOfAll_any (xs : List Int) (b : Nat) (c : Nat) (w : World) (hl : xs.length ≤ 1000) (hr : ∀ x ∈ xs, -9223372036854775808 ≤ x ∧ x ≤ 9223372036854775807)
    (hcell : ∀ (k : Nat) (h : k < xs.length), w.cell? ⟨b, k, none⟩ = some (.int .i64 xs[k])) :
    Calls Tryz.prog 70 #[.slice (some ⟨b, 0, none⟩) xs.length c] w fun e w' => e = .returned (.int .u64 (gcdL xs)) ∧ ∃ n, w' = w.drewN n := by
  go_enter Tryz.func70, Tryz.ntmps70
  go_wp2
  go_loopw [3, 5, 6, 9] (fun t3 _ _ t9 wr => ∃ k : Nat, k ≤ xs.length ∧ t9 = .int .i64 k ∧ t3 = .int .u64 (gcdL (xs.take k)) ∧ ∃ n, wr = w.drewN n) (fun _ _ _ t9 _ => xs.length - (intOf t9).toNat)
  case atStart => exact ⟨0, Nat.zero_le _, rfl, rfl, 0, rfl⟩
  case round =>
    obtain ⟨k, hk, rfl, rfl, n, rfl⟩ := hrel
    by_cases hlt : k < xs.length
    · have hc := hcell k hlt
      have hrk := hr xs[k] (List.getElem_mem hlt)
      have hG := Lib.hid (gcdL_take_succ xs k hlt)
      go_wp2_with (go_at_call 75; refine (magnitude_any _ _ (by omega) (by omega)).mono ?_; rintro e w' ⟨rfl, rfl⟩)
      go_loopw [3, 6] (fun t3 t6 wr => ∃ x y : Nat, t3 = .int .u64 x ∧ t6 = .int .u64 y ∧ x ≤ 18446744073709551615 ∧ y ≤ 18446744073709551615 ∧ Hid (Nat.gcd x y = gcdL (xs.take (k+1))) ∧ ∃ n, wr = w.drewN n) (fun _ t6 _ => (intOf t6).toNat)
      case atStart => exact ⟨_, _, rfl, rfl, by have := gcdL_le 9223372036854775808 (xs.take k) (fun x hx => by have := hr x (List.mem_of_mem_take hx); omega); omega, by omega, Lib.hid hG.out.symm, _, rfl⟩
      case round =>
        obtain ⟨x, y, rfl, rfl, hx, hy, hg, m, rfl⟩ := hrel
        by_cases hy0 : y = 0
        · subst hy0
          go_wp2
          go_roundw
          case rel => exact ⟨k + 1, by omega, by go_num, int_eq (by rw [← hg.out]; simp), _, rfl⟩
          case measure => simp [intOf]; omega
        · have h3 : ((y : Int) == 0) = false := by simp; omega
          have h4 : ((y : Int) != 0) = true := by simp; omega
          have h5 : (0:Int) < (y : Int) := by omega
          go_wp2
          go_quiet (fail)
          have hG2 := Lib.hid (gcd_step x y)
          go_wp2
          go_roundw
          case rel => exact ⟨y, x % y, rfl, by go_num, hy, by have := Nat.mod_lt x (Nat.pos_of_ne_zero hy0); omega, Lib.hid (hG2.out.trans hg.out), _, World.drewN_drewN _ _ _⟩
          case measure => simp [intOf]; have := Nat.mod_lt x (Nat.pos_of_ne_zero hy0); omega
    · obtain rfl : k = xs.length := by omega
      have hT := Lib.hid (show gcdL (xs.take xs.length) = gcdL xs by rw [List.take_length])
      go_wp2
      go_ret
      exact ⟨ret_int (by rw [hT.out]), _, rfl⟩

end Go.Proofs.YtabmfaamadbefaaGreat