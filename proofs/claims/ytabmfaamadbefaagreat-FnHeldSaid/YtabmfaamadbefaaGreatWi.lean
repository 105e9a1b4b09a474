/- Contracts of WholeInputs in the program and in the reference. Condition: the numbers are ints. -/
import Derived.Test.YtabmfaamadbefaaGreatWh
set_option linter.unusedSimpArgs false
set_option linter.unusedVariables false
set_option linter.unusedSectionVars false
namespace Go.Proofs.YtabmfaamadbefaaGreat
open Go.RowKit Go.Lib
theorem int_max {a b : Int} : max a b = if a ≤ b then b else a := by omega

section
variable {n d m e : Int}
set_option maxHeartbeats 2000000 in
theorem impl_WholeInputs_any (w : World) (hn : -9223372036854775808 ≤ n ∧ n ≤ 9223372036854775807) (hd : -9223372036854775808 ≤ d ∧ d ≤ 9223372036854775807) (hm : -9223372036854775808 ≤ m ∧ m ≤ 9223372036854775807) (he : -9223372036854775808 ≤ e ∧ e ≤ 9223372036854775807) :
    Calls Tryz.prog 40 #[.agg #[.int .i64 n, .int .i64 d, .int .i64 m, .int .i64 e]] w fun en w' => en = .returned (.int .i64 (wholeS n d m e)) ∧ Below w.heap.size w w' := by
  have HS := Lib.hid (show (if spanOk n d m e = true ∧ -1000 * d ≤ n ∧ m ≤ 1000 * e then max 0 (m / e - ceilF n d + 1) else 0) = wholeS n d m e from rfl)
  rcases chain3 (spanOk n d m e) (inR n (-1000 * d) (1000 * d)) (inR m (-1000 * e) (1000 * e)) with h1 | ⟨h1, h2⟩ | ⟨h1, h2, h3⟩ | ⟨h1, h2, h3⟩
  · go_enter Tryz.func40, Tryz.ntmps40
    go_wp2_with (first | (go_at_call 34; (first | (with_reducible refine (calls_ov2 (impl_SpanOk_eq (by assumption) (by omega) (by omega) (by omega) (by omega))).mono ?_) | refine (calls_ov (impl_SpanOk_eq (by assumption) (by omega) (by omega) (by omega) (by omega))).mono ?_); rintro e w' ⟨rfl, x, rfl⟩))
    go_ret
    exact ⟨ret_int (by rw [← HS.out, if_neg (by rw [h1]; simp)]), (by repeat (first | exact bR | refine bO ?_ | refine bA ?_ | refine bS ?_ | refine bD ?_ | refine bN ?_))⟩
  · obtain ⟨o1, o2⟩ := spanOk_both' h1
    have HZ := Lib.hid (show wholeS n d m e = 0 by
      rw [← HS.out, if_neg]
      rintro ⟨_, k1, k2⟩
      have := (span_in h1).1 k2
      simp [inR] at h2; omega)
    go_enter Tryz.func40, Tryz.ntmps40
    go_wp2_with (first | (go_at_call 34; (first | (with_reducible refine (calls_ov2 (impl_SpanOk_eq (by assumption) (by omega) (by omega) (by omega) (by omega))).mono ?_) | refine (calls_ov (impl_SpanOk_eq (by assumption) (by omega) (by omega) (by omega) (by omega))).mono ?_); rintro e w' ⟨rfl, x, rfl⟩) | (go_at_call 80; (first | (with_reducible refine (calls_ov2 (isDriven_eq (by assumption) (by assumption))).mono ?_) | refine (calls_ov (isDriven_eq (by assumption) (by assumption))).mono ?_); rintro e w' ⟨rfl, x, rfl⟩))
    go_ret
    exact ⟨ret_int HZ.out.symm, (by repeat (first | exact bR | refine bO ?_ | refine bA ?_ | refine bS ?_ | refine bD ?_ | refine bN ?_))⟩
  · obtain ⟨o1, o2⟩ := spanOk_both' h1
    have HZ := Lib.hid (show wholeS n d m e = 0 by
      rw [← HS.out, if_neg]
      rintro ⟨_, k1, k2⟩
      have := (span_in h1).2 k1
      simp [inR] at h3; omega)
    go_enter Tryz.func40, Tryz.ntmps40
    go_wp2_with (first | (go_at_call 34; (first | (with_reducible refine (calls_ov2 (impl_SpanOk_eq (by assumption) (by omega) (by omega) (by omega) (by omega))).mono ?_) | refine (calls_ov (impl_SpanOk_eq (by assumption) (by omega) (by omega) (by omega) (by omega))).mono ?_); rintro e w' ⟨rfl, x, rfl⟩) | (go_at_call 80; (first | (with_reducible refine (calls_ov2 (isDriven_eq (by assumption) (by assumption))).mono ?_) | refine (calls_ov (isDriven_eq (by assumption) (by assumption))).mono ?_); rintro e w' ⟨rfl, x, rfl⟩))
    go_ret
    exact ⟨ret_int HZ.out.symm, (by repeat (first | exact bR | refine bO ?_ | refine bA ?_ | refine bS ?_ | refine bD ?_ | refine bN ?_))⟩
  · obtain ⟨o1, o2⟩ := spanOk_both' h1
    have q1 := ratioOk_bd o1
    have q2 := ratioOk_bd o2
    have k2 := inR_iff.1 h2
    have k3 := inR_iff.1 h3
    have b1 := ceilF_bd (a := n) (b := d) (by omega) (by omega) (by omega)
    have b2 := cf_bd (a := m) (b := e) (by omega) (by omega) (by omega)
    obtain ⟨p, hp⟩ : ∃ p, m / e = p := ⟨_, rfl⟩
    obtain ⟨q, hq⟩ : ∃ q, ceilF n d = q := ⟨_, rfl⟩
    have HZ := Lib.hid (show wholeS n d m e = max 0 (p - q + 1) by rw [← HS.out, if_pos ⟨h1, by omega, by omega⟩, hp, hq])
    have HF : ∀ w, _ := fun w => impl_RatioFloor_any (n := m) (d := e) w o2
    have HC : ∀ w, _ := fun w => impl_RatioCeil_any (n := n) (d := d) w o1
    simp only [hp] at HF
    simp only [hq] at HC
    rw [hp] at b2
    rw [hq] at b1
    clear hp hq
    have hw1 : IntKind.i64.wrap (p - q) = p - q := by rw [IntKind.wrap_i64]; omega
    have hw2 : IntKind.i64.wrap (p - q + 1) = p - q + 1 := by rw [IntKind.wrap_i64]; omega
    go_enter Tryz.func40, Tryz.ntmps40
    go_wp2_with (first | (go_at_call 34; (first | (with_reducible refine (calls_ov2 (impl_SpanOk_eq (by assumption) (by omega) (by omega) (by omega) (by omega))).mono ?_) | refine (calls_ov (impl_SpanOk_eq (by assumption) (by omega) (by omega) (by omega) (by omega))).mono ?_); rintro e w' ⟨rfl, x, rfl⟩) | (go_at_call 80; (first | (with_reducible refine (calls_ov2 (isDriven_eq (by assumption) (by assumption))).mono ?_) | refine (calls_ov (isDriven_eq (by assumption) (by assumption))).mono ?_); rintro e w' ⟨rfl, x, rfl⟩))
    ((first | (with_reducible refine wp_region_calm2 (by kernel_rfl) (by kernel_rfl) ?_) | refine wp_region_calm (by kernel_rfl) (by kernel_rfl) ?_); (repeat (go_big_quiet_step (first | (go_at_call 78; exact calm_below (HF _)) | (go_at_call 77; exact calm_below (HC _))))); refine wpQuiet_nil ?_; rintro _ ⟨y, rfl⟩)
    go_wp2
    all_goals go_ret
    all_goals exact ⟨ret_int (by rw [HZ.out]; omega), (by repeat (first | exact bR | refine bO ?_ | refine bA ?_ | refine bS ?_ | refine bD ?_ | refine bN ?_))⟩
end
end Go.Proofs.YtabmfaamadbefaaGreat