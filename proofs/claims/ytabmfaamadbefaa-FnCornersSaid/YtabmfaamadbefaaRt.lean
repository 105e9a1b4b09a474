/- Contracts of RatioOf for a positive divisor, of the program and of the reference. Condition: the divisor is positive. -/
import Derived.Test.YtabmfaamadbefaaRa
import Derived.Test.YtabmfaamadbefaaSp
set_option linter.unusedSimpArgs false
set_option linter.unusedVariables false
set_option linter.unusedSectionVars false
namespace Go.Proofs.Ytabmfaamadbefaa
open Go.RowKit Go.Lib

def ratOf (n d : Int) : Int × Int := if ratioOk (n / (gcdL [n, d] : Nat)) (d / (gcdL [n, d] : Nat)) = true then (n / (gcdL [n, d] : Nat), d / (gcdL [n, d] : Nat)) else (0, 0)
theorem gcd2_parts {n d : Int} (hd : 0 < d) : ∃ (g : Nat) (a b : Int), gcdL [n, d] = g ∧ 0 < g ∧ n = a * g ∧ d = b * g ∧ n / (g : Int) = a ∧ d / (g : Int) = b ∧ 0 < b ∧ Nat.gcd a.natAbs b.natAbs = 1 := by
  have e : gcdL [n, d] = Nat.gcd n.natAbs d.natAbs := by simp [gcdL]
  have g0 : 0 < Nat.gcd n.natAbs d.natAbs := Nat.gcd_pos_of_pos_right _ (by omega)
  obtain ⟨a, ha⟩ : ((Nat.gcd n.natAbs d.natAbs : Nat) : Int) ∣ n := Int.ofNat_dvd_left.2 (Nat.gcd_dvd_left _ _)
  obtain ⟨b, hb⟩ : ((Nat.gcd n.natAbs d.natAbs : Nat) : Int) ∣ d := Int.ofNat_dvd_left.2 (Nat.gcd_dvd_right _ _)
  generalize hg : Nat.gcd n.natAbs d.natAbs = g at *
  have gq : (0 : Int) < g := by omega
  have hb0 : 0 < b := by
    rcases Int.lt_or_le 0 b with h | h
    · exact h
    · have := Int.mul_nonpos_of_nonneg_of_nonpos (a := (g : Int)) (b := b) (by omega) h; omega
  refine ⟨g, a, b, e, g0, by rw [Int.mul_comm]; exact ha, by rw [Int.mul_comm]; exact hb, by rw [ha]; exact Int.mul_ediv_cancel_left _ (by omega), by rw [hb]; exact Int.mul_ediv_cancel_left _ (by omega), hb0, ?_⟩
  rw [ha, hb, Int.natAbs_mul, Int.natAbs_mul, Int.natAbs_natCast, Nat.gcd_mul_left] at hg
  have : g * Nat.gcd a.natAbs b.natAbs = g * 1 := by omega
  exact Nat.eq_of_mul_eq_mul_left g0 this
theorem ratOf_red {n d a b : Int} {g : Nat} (e : gcdL [n, d] = g) (qa : n / (g : Int) = a) (qb : d / (g : Int) = b) : ratOf n d = if ratioOk a b = true then (a, b) else (0, 0) := by unfold ratOf; rw [e, qa, qb]
theorem ratOf_ok {n d p q : Int} (h : ratOf n d = (p, q)) : ratioOk p q = true ∨ (p = 0 ∧ q = 0) := by
  unfold ratOf at h
  split at h
  · rename_i k; simp at h; rw [← h.1, ← h.2]; exact .inl k
  · simp at h; exact .inr ⟨h.1.symm, h.2.symm⟩
theorem ratioOk_parts {a b : Int} (hb : 0 < b) (hg : Nat.gcd a.natAbs b.natAbs = 1) (ba : -9223372036854775807 ≤ a) : ratioOk a b = true ↔ b ≤ 1000000000000000 ∧ -1000000000000000000 ≤ a ∧ a ≤ 1000000000000000000 := by
  simp only [ratioOk, inR, Bool.and_eq_true, decide_eq_true_eq]
  constructor
  · rintro ⟨⟨⟨_, h1⟩, h2, h3⟩, _⟩; exact ⟨h1, h2, h3⟩
  · rintro ⟨h1, h2, h3⟩; exact ⟨⟨⟨by omega, h1⟩, h2, h3⟩, by rw [gcdS_eq _ _ ba (by omega), hg]; rfl⟩
theorem gcd2_eq {a b : Int} {B g : Nat} {w : World} (h : gcdL [a, b] = g) (hB : B = w.heap.size) (ha : -9223372036854775808 ≤ a ∧ a ≤ 9223372036854775807) (hb : -9223372036854775808 ≤ b ∧ b ≤ 9223372036854775807) :
    Calls Try.prog 70 #[.slice (some ⟨B, 0, none⟩) 2 2] (w.alloc (.cells #[.int .i64 a, .int .i64 b] 3)) fun e w' =>
      e = .returned (.int .u64 g) ∧ ∃ n, w' = (w.alloc (.cells #[.int .i64 a, .int .i64 b] 3)).drewN n := by
  have := gcd2_any a b B w hB ha hb
  rw [h] at this; exact this
theorem sign_of {n q : Int} {g : Nat} (hg : 0 < g) (h : n = q * (g : Int)) : n < 0 ↔ q < 0 := by
  subst h
  constructor
  · intro h
    rcases Int.lt_or_le q 0 with h1 | h1
    · exact h1
    · have := Int.mul_nonneg h1 (show (0 : Int) ≤ g by omega); omega
  · intro h; exact Int.mul_neg_of_neg_of_pos h (by omega)

set_option maxHeartbeats 4000000 in
theorem impl_RatioOf_eq {n d p q : Int} {w : World} (h : Hid (ratOf n d = (p, q))) (hn : -9223372036854775807 ≤ n ∧ n ≤ 9223372036854775807) (hd : 0 < d ∧ d ≤ 9223372036854775807) :
    Calls Try.prog 100 #[.int .i64 n, .int .i64 d] w fun e w' => e = .returned (.agg #[.int .i64 p, .int .i64 q]) ∧ Below w.heap.size w w' := by
  obtain ⟨g, a, b, eg, g0, ea, eb, qa, qb, b0, hg⟩ := gcd2_parts (n := n) hd.1
  have h' := h.out
  rw [ratOf_red eg qa qb] at h'
  have ba := mul_le_bd (a := a) (M := 9223372036854775807) g0 (by omega) (by rw [← ea]; exact hn)
  have bb := mul_le_bd (a := b) (M := 9223372036854775807) g0 (by omega) (by rw [← eb]; omega)
  have hok := ratioOk_parts b0 hg ba.1
  have gz : ((g : Int) == 0) = false := by simp; omega
  have d1 := natAbs_div g0 ea
  have d2 := natAbs_div g0 eb
  have bN : (b.natAbs : Int) = b := by omega
  rw [bN] at d2
  have hs := sign_of g0 ea
  have hw1 : IntKind.u64.wrap (a.natAbs : Int) = (a.natAbs : Int) := by rw [IntKind.wrap_u64]; omega
  have hw2 : IntKind.i64.wrap (a.natAbs : Int) = (a.natAbs : Int) := by rw [IntKind.wrap_i64]; omega
  have hw3 : IntKind.i64.wrap (-(a.natAbs : Int)) = -(a.natAbs : Int) := by rw [IntKind.wrap_i64]; omega
  have hw4 : IntKind.u64.wrap b = b := by rw [IntKind.wrap_u64]; omega
  have hdz : (d == 0) = false := by simp; omega
  clear h ea eb qa qb hg bN
  by_cases hk : ratioOk a b = true
  · rw [if_pos hk] at h'
    simp at h'
    obtain ⟨rfl, rfl⟩ := h'
    obtain ⟨k1, k2, k3⟩ := hok.1 hk
    clear hok hk
    by_cases hneg : n < 0
    · have ha := hs.1 hneg
      have haN : -(a.natAbs : Int) = a := by omega
      have k4 : (a.natAbs : Int) ≤ 1000000000000000000 := by omega
      have hx2 : decide (d < 0) = false := decide_eq_false (by omega)
      have hx1 : decide (n < 0) = true := decide_eq_true hneg
      clear hs
      go_enter Try.func100, Try.ntmps100
      go_wp2_with (first | (go_at_call 70; refine (gcd2_eq eg (by simp) (by omega) (by omega)).mono ?_; rintro e w' ⟨rfl, n, rfl⟩) | (go_at_call 74; refine (isLeast_any _ _ (by omega)).mono ?_; rintro e w' ⟨rfl, rfl⟩))
      ((first | (with_reducible refine wp_region_calm2 (by kernel_rfl) (by kernel_rfl) ?_) | refine wp_region_calm (by kernel_rfl) (by kernel_rfl) ?_); (repeat (go_big_quiet_step (first | (go_at_call 98; exact calm_same (magnitude_any _ _ (by omega) (by omega)))))); refine wpQuiet_nil ?_; rintro _ ⟨y, rfl⟩)
      go_wp2
      refine bodyPost_ret (v := .agg #[.int .i64 a, .int .i64 b]) (by simp [results, Try.results100, go_sem]; try omega) rfl ⟨rfl, ?_⟩
      (repeat (first | exact bR | refine bO ?_ | refine bA ?_ | refine bS ?_ | refine bD ?_ | refine bN ?_))
    · have ha : ¬ a < 0 := fun h => hneg (hs.2 h)
      have haN : (a.natAbs : Int) = a := by omega
      have k4 : (a.natAbs : Int) ≤ 1000000000000000000 := by omega
      have hx2 : decide (d < 0) = false := decide_eq_false (by omega)
      have hx1 : decide (n < 0) = false := decide_eq_false hneg
      clear hs
      go_enter Try.func100, Try.ntmps100
      go_wp2_with (first | (go_at_call 70; refine (gcd2_eq eg (by simp) (by omega) (by omega)).mono ?_; rintro e w' ⟨rfl, n, rfl⟩) | (go_at_call 74; refine (isLeast_any _ _ (by omega)).mono ?_; rintro e w' ⟨rfl, rfl⟩))
      ((first | (with_reducible refine wp_region_calm2 (by kernel_rfl) (by kernel_rfl) ?_) | refine wp_region_calm (by kernel_rfl) (by kernel_rfl) ?_); (repeat (go_big_quiet_step (first | (go_at_call 98; exact calm_same (magnitude_any _ _ (by omega) (by omega)))))); refine wpQuiet_nil ?_; rintro _ ⟨y, rfl⟩)
      go_wp2
      refine bodyPost_ret (v := .agg #[.int .i64 a, .int .i64 b]) (by simp [results, Try.results100, go_sem]; try omega) rfl ⟨rfl, ?_⟩
      (repeat (first | exact bR | refine bO ?_ | refine bA ?_ | refine bS ?_ | refine bD ?_ | refine bN ?_))
  · rw [if_neg hk] at h'
    simp at h'
    obtain ⟨rfl, rfl⟩ := h'
    have hbig : 1000000000000000000 < (a.natAbs : Int) ∨ ((a.natAbs : Int) ≤ 1000000000000000000 ∧ 1000000000000000 < b) := by
      rw [hok] at hk
      omega
    clear hok hk hs
    rcases hbig with k4 | ⟨k4, k5⟩
    all_goals
      go_enter Try.func100, Try.ntmps100
      go_wp2_with (first | (go_at_call 70; refine (gcd2_eq eg (by simp) (by omega) (by omega)).mono ?_; rintro e w' ⟨rfl, n, rfl⟩) | (go_at_call 74; refine (isLeast_any _ _ (by omega)).mono ?_; rintro e w' ⟨rfl, rfl⟩))
      ((first | (with_reducible refine wp_region_calm2 (by kernel_rfl) (by kernel_rfl) ?_) | refine wp_region_calm (by kernel_rfl) (by kernel_rfl) ?_); (repeat (go_big_quiet_step (first | (go_at_call 98; exact calm_same (magnitude_any _ _ (by omega) (by omega)))))); refine wpQuiet_nil ?_; rintro _ ⟨y, rfl⟩)
      go_wp2
      refine bodyPost_ret (v := .agg #[.int .i64 0, .int .i64 0]) (by simp [results, Try.results100, go_sem]) rfl ⟨rfl, ?_⟩
      (repeat (first | exact bR | refine bO ?_ | refine bA ?_ | refine bS ?_ | refine bD ?_ | refine bN ?_))

end Go.Proofs.Ytabmfaamadbefaa
