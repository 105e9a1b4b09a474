/- Contracts of PieceOk in the program and in the reference: both return pieceOk of the four numbers. Condition: the numbers are ints. -/
import Derived.Test.YtncolpeeilgndaaA
namespace Go.Proofs.Ytncolpeeilgndaa
open Go.RowKit

theorem isPart_any (n : Int) (w : World) :
    Calls Try.prog 37 #[.int .i64 n] w fun e w' => e = .returned (.bool (inR n (-1000000000000) 1000000000000)) ∧ w = w' := by
  go_enter Try.func37, Try.ntmps37
  go_wp2_with (go_at_call 36; refine (inRange_any _ _ _ _).mono ?_; rintro e w' ⟨rfl, rfl⟩)
  go_ret
  exact ⟨rfl, rfl⟩

theorem gcd4_any (a b c d : Int) (B : Nat) (w : World) (hB : B = w.heap.size) (ha : -9223372036854775808 ≤ a ∧ a ≤ 9223372036854775807) (hb : -9223372036854775808 ≤ b ∧ b ≤ 9223372036854775807)
    (hc : -9223372036854775808 ≤ c ∧ c ≤ 9223372036854775807) (hd : -9223372036854775808 ≤ d ∧ d ≤ 9223372036854775807) :
    Calls Try.prog 38 #[.slice (some ⟨B, 0, none⟩) 4 4] (w.alloc (.cells #[.int .i64 a, .int .i64 b, .int .i64 c, .int .i64 d] 3)) fun e w' =>
      e = .returned (.int .u64 (gcdL [a, b, c, d])) ∧ ∃ n, w' = (w.alloc (.cells #[.int .i64 a, .int .i64 b, .int .i64 c, .int .i64 d] 3)).drewN n := by
  subst hB
  refine gcdOfAll_any [a, b, c, d] w.heap.size 4 _ (by simp) ?_ ?_
  · intro x hx
    simp at hx
    rcases hx with rfl | rfl | rfl | rfl <;> assumption
  · intro k hk
    match k, hk with
    | 0, _ => simp [go_sem]
    | 1, _ => simp [go_sem]
    | 2, _ => simp [go_sem]
    | 3, _ => simp [go_sem]

theorem impl_PieceOk_any (a b c d : Int) (w : World) (ha : -9223372036854775808 ≤ a ∧ a ≤ 9223372036854775807) (hb : -9223372036854775808 ≤ b ∧ b ≤ 9223372036854775807)
    (hc : -9223372036854775808 ≤ c ∧ c ≤ 9223372036854775807) (hd : -9223372036854775808 ≤ d ∧ d ≤ 9223372036854775807) :
    Calls Try.prog 11 #[.agg #[.int .i64 a, .int .i64 b, .int .i64 c, .int .i64 d]] w fun e w' => e = .returned (.bool (pieceOk a b c d)) ∧ Below w.heap.size w w' := by
  have HS := Lib.hid (show (inR d 1 1000000000000 && inR a (-1000000000000) 1000000000000 && inR b (-1000000000000) 1000000000000 && inR c (-1000000000000) 1000000000000 && decide (gcdL [a, b, c, d] = 1)) = pieceOk a b c d from rfl)
  rcases chain4 (inR d 1 1000000000000) (inR a (-1000000000000) 1000000000000) (inR b (-1000000000000) 1000000000000) (inR c (-1000000000000) 1000000000000) with h1 | ⟨h1, h2⟩ | ⟨h1, h2, h3⟩ | ⟨h1, h2, h3, h4⟩ | ⟨h1, h2, h3, h4⟩
  all_goals
    go_enter Try.func11, Try.ntmps11
    go_wp2_with (first | (go_at_call 36; refine (inRange_any _ _ _ _).mono ?_; rintro e w' ⟨rfl, rfl⟩) | (go_at_call 37; refine (isPart_any _ _).mono ?_; rintro e w' ⟨rfl, rfl⟩))
    try (refine (gcd4_any a b c d _ _ (by simp) ha hb hc hd).mono ?_; rintro e w' ⟨rfl, n, rfl⟩; go_wp2)
    go_ret
    first
    | exact ⟨ret_bool (by rw [← HS.out]; simp [*]), (Below.refl _ _).alloc (Nat.le_refl _) _⟩
    | exact ⟨ret_bool (by rw [← HS.out]; simp [*]; exact nat_beq1 _), below_drewN (((Below.refl _ _).alloc (Nat.le_refl _) _).alloc (by simp) _) _⟩

theorem spec_PieceOk_any (a b c d : Int) (w : World) (ha : -9223372036854775808 ≤ a ∧ a ≤ 9223372036854775807) (hb : -9223372036854775808 ≤ b ∧ b ≤ 9223372036854775807)
    (hc : -9223372036854775808 ≤ c ∧ c ≤ 9223372036854775807) (hd : -9223372036854775808 ≤ d ∧ d ≤ 9223372036854775807) :
    Calls Try.prog 9 #[.agg #[.int .i64 a, .int .i64 b, .int .i64 c, .int .i64 d]] w fun e w' => e = .returned (.bool (pieceOk a b c d)) ∧ Below w.heap.size w w' := by
  have HS := Lib.hid (show (inR d 1 1000000000000 && inR a (-1000000000000) 1000000000000 && inR b (-1000000000000) 1000000000000 && inR c (-1000000000000) 1000000000000 && decide (gcdL [a, b, c, d] = 1)) = pieceOk a b c d from rfl)
  rcases chain4 (inR d 1 1000000000000) (inR a (-1000000000000) 1000000000000) (inR b (-1000000000000) 1000000000000) (inR c (-1000000000000) 1000000000000) with h1 | ⟨h1, h2⟩ | ⟨h1, h2, h3⟩ | ⟨h1, h2, h3, h4⟩ | ⟨h1, h2, h3, h4⟩
  all_goals
    have hg1 := gcdS_bd a b (by omega) (by omega)
    have hg2 := gcdS_bd c d (by omega) (by omega)
    go_enter Try.func9, Try.ntmps9
    go_wp2
    refine wp_region_calm (by kernel_rfl) (by kernel_rfl) ?_
    repeat (go_big_quiet_step (first | (go_at_call 34; exact calm_same (l01In_eq (by assumption))) | (go_at_call 35; exact calm_drewN (spec_GcdOf_any _ _ _ (by omega) (by omega) (by omega) (by omega)))))
    refine wpQuiet_nil ?_
    rintro _ ⟨y, rfl⟩
    go_wp2
    go_ret
    refine ⟨ret_bool ?_, below_ov _ _ ((Below.refl _ _).alloc (Nat.le_refl _) _) (by simp)⟩
    rw [← HS.out]
    first
    | (simp [*]; done)
    | (have q1 := inR_iff.1 h1; have q2 := inR_iff.1 h2; have q3 := inR_iff.1 h3; have q4 := inR_iff.1 h4; rw [gcdS4 a b c d (by omega) (by omega) (by omega) (by omega)]; simp [h1, h2, h3, h4]; exact nat_beq1 _)
end Go.Proofs.Ytncolpeeilgndaa
