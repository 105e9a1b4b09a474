/- FnExactSpanOk and FnExactInSpan return true for every argument, and leave it as it was. No condition. -/
import Derived.Test.YtphajelacigokaaSpan
import Derived.Test.YtphajelacigokaaLf
set_option linter.unusedVariables false
set_option linter.unusedSimpArgs false
namespace Go.Proofs.Ytphajelacigokaa
open Go.ChangeShapes Go.WideShapes Go.ChangeAt Go.RowKit Go.Joins

theorem toRatio_any (a b : Int) (w : World) :
    Calls Try.prog 27 #[.agg #[.int .i64 a, .int .i64 b]] w fun e w' => e = .returned (.agg #[.int .i64 a, .int .i64 b]) ∧ Below w.heap.size w w' := by
  go_enter Try.func27, Try.ntmps27
  go_wp2
  refine bodyPost_ret (v := .agg #[.int .i64 a, .int .i64 b]) (by simp [results, Try.results27, go_sem]) rfl ⟨rfl, (by repeat (first | exact Below.refl _ _ | refine below_ov _ _ ?_ (by simp [ov_size] <;> omega) | refine Below.alloc ?_ (by simp [ov_size] <;> omega) _ | refine Below.drew ?_ | refine below_drewN ?_ _))⟩

theorem toSpan_any (a b c d : Int) (w : World) :
    Calls Try.prog 18 #[.agg #[.int .i64 a, .int .i64 b, .int .i64 c, .int .i64 d]] w fun e w' => e = .returned (.agg #[.int .i64 a, .int .i64 b, .int .i64 c, .int .i64 d]) ∧ Below w.heap.size w w' := by
  go_enter Try.func18, Try.ntmps18
  go_wp2_with (first | (go_at_call 27; refine (calls_ov (toRatio_any _ _ _)).mono ?_; rintro e w' ⟨rfl, x, rfl⟩))
  refine bodyPost_ret (v := .agg #[.int .i64 a, .int .i64 b, .int .i64 c, .int .i64 d]) (by simp [results, Try.results18, go_sem]) rfl ⟨rfl, ?_⟩
  (repeat (first | exact Below.refl _ _ | refine below_ov _ _ ?_ (by simp [ov_size] <;> omega) | refine Below.alloc ?_ (by simp [ov_size] <;> omega) _ | refine Below.drew ?_ | refine below_drewN ?_ _))

section
variable {n d m e u v : Int}
theorem law3_any (w : World) (hn : -9223372036854775808 ≤ n ∧ n ≤ 9223372036854775807) (hd : -9223372036854775808 ≤ d ∧ d ≤ 9223372036854775807) (hm : -9223372036854775808 ≤ m ∧ m ≤ 9223372036854775807) (he : -9223372036854775808 ≤ e ∧ e ≤ 9223372036854775807) :
    Calls Try.prog 5 #[.agg #[.int .i64 n, .int .i64 d, .int .i64 m, .int .i64 e]] w fun e' w' => e' = .returned (.bool true) ∧ Below w.heap.size w w' := by
  go_enter Try.func5, Try.ntmps5
  go_wp2_with (first | (go_at_call 18; refine (calls_ov (toSpan_any _ _ _ _ _)).mono ?_; rintro e w' ⟨rfl, x, rfl⟩) | (go_at_call 17; refine (calls_ov (spec_SpanOk_any _ hn hd hm he)).mono ?_; rintro e w' ⟨rfl, x, rfl⟩) | (go_at_call 19; refine (calls_ov (impl_SpanOk_any _ hn hd hm he)).mono ?_; rintro e w' ⟨rfl, x, rfl⟩))
  go_ret
  exact ⟨rfl, (by repeat (first | exact Below.refl _ _ | refine below_ov _ _ ?_ (by simp [ov_size] <;> omega) | refine Below.alloc ?_ (by simp [ov_size] <;> omega) _ | refine Below.drew ?_ | refine below_drewN ?_ _))⟩

theorem law5_any (w : World) (hn : -9223372036854775808 ≤ n ∧ n ≤ 9223372036854775807) (hd : -9223372036854775808 ≤ d ∧ d ≤ 9223372036854775807) (hm : -9223372036854775808 ≤ m ∧ m ≤ 9223372036854775807) (he : -9223372036854775808 ≤ e ∧ e ≤ 9223372036854775807)
    (hu : -9223372036854775808 ≤ u ∧ u ≤ 9223372036854775807) (hv : -9223372036854775808 ≤ v ∧ v ≤ 9223372036854775807) :
    Calls Try.prog 7 #[.agg #[.int .i64 n, .int .i64 d, .int .i64 m, .int .i64 e], .agg #[.int .i64 u, .int .i64 v]] w fun e' w' => e' = .returned (.bool true) ∧ Below w.heap.size w w' := by
  go_enter Try.func7, Try.ntmps7
  go_wp2
  (try (refine wp_region_calm (by kernel_rfl) (by kernel_rfl) ?_; (repeat (go_big_quiet_step (first | (go_at_call 18; exact calm_below (toSpan_any _ _ _ _ _)) | (go_at_call 27; exact calm_below (toRatio_any _ _ _)) | (go_at_call 26; exact calm_below (spec_InSpan_any _ hn hd hm he hu hv))))); refine wpQuiet_nil ?_; rintro _ ⟨y, rfl⟩))
  go_wp2
  (try (refine wp_region_calm (by kernel_rfl) (by kernel_rfl) ?_; (repeat (go_big_quiet_step (first | (go_at_call 18; exact calm_below (toSpan_any _ _ _ _ _)) | (go_at_call 27; exact calm_below (toRatio_any _ _ _)) | (go_at_call 28; exact calm_below (impl_InSpan_any _ hn hd hm he hu hv))))); refine wpQuiet_nil ?_; rintro _ ⟨y, rfl⟩))
  go_wp2
  go_ret
  exact ⟨rfl, (by repeat (first | exact Below.refl _ _ | refine below_ov _ _ ?_ (by simp [ov_size] <;> omega) | refine Below.alloc ?_ (by simp [ov_size] <;> omega) _ | refine Below.drew ?_ | refine below_drewN ?_ _))⟩
end
set_option maxRecDepth 100000 in
theorem FnExactSpanOk_lifted (os : Os) (started : os.Started) (H : Type) (enc : TypeId × Value → H) :
    ReturnsInHanded {} Try.checked os 5 .any (Rows.fnExactSpanOkSpec.pre6 enc Try.prog Try.f5 Rows.fnExactSpanOkRow.domain false) (Rows.fnExactSpanOkSpec.post enc Try.prog Try.f5 false true false false) := by
  refine returnsInHanded_of_change (C := Try.checked) own started (by kernel_rfl) Try.func5
    (ChangeSpec.witness6 (enc := enc) (C := Try.checked) false ⟨#[], #[.agg #[.int .i64 0, .int .i64 0, .int .i64 0, .int .i64 0]], []⟩ 8 (by kernel_rfl) (by kernel_rfl) (by kernel_rfl) (by kernel_rfl)) ?_
  intro W base args ds gs before hval0 hW hcnd _
  have hval : ∀ (j : Nat) t v, Try.f5.params[j]? = some t → args[j]? = some v → Value.okWide Try.prog W .any base t v := hval0
  have hW' := hW
  obtain ⟨p, q, hA0, hV, rfl, hfz, hnd⟩ := hW
  have hA : DataW.TrodAll enc Try.prog W 0 (fun _ => true) true Try.f5.params.toList args.toList ds p := hA0
  rw [Try.params5] at hA hval
  obtain ⟨v0, vs0, d0, ds0, p0, q0, hargs0, rfl, rfl, h0, r0⟩ := trodAll_cons hA
  obtain ⟨rfl, rfl, rfl⟩ := trodAll_nil r0
  obtain rfl : args = #[v0] := by cases args; simp_all
  obtain ⟨rfl, rfl⟩ := trodVars_none hV
  have k0 := h0
  have lt0 : ∀ x ∈ p0, x.block < W.heap.size := by obtain ⟨m, hm⟩ := k0; exact DataW.trod_lt m _ _ _ hm
  have hv0 := hval 0 42 v0 rfl rfl
  obtain ⟨x0, x1, x2, x3, rfl, b0, b1, b2, b3⟩ := open_span hv0 h0
  clear hA0 hval0
  refine (law3_any W b0 b1 b2 b3).mono fun e W' ⟨he, bel⟩ => ?_
  subst he
  exact ⟨_, rfl, _, _, _, [], _, [], hW', trodAll_mk1 (shut_bool Try.underlying4 _), (trodAll_cons_mk (Below.trod laidOut (by kernel_rfl) (of_decide_eq_true (by kernel_rfl)) k0 bel lt0) trodAll_mk0), rfl, bel.frame _, fun h => by cases h⟩

theorem FnExactSpanOk_holds : Rows.FnExactSpanOkSaid :=
  OpenClaim.holds_of_wide 5 Try.f5 rfl rfl rfl rfl rfl rfl rfl ⟨rfl, rfl, rfl, rfl, rfl⟩ rfl rfl rfl rfl rfl (by kernel_rfl) Try.func5 (by kernel_rfl)
    (of_decide_eq_true (by kernel_rfl)) (by unfold Func.isWrapper; first | (rw [if_pos (by decide +kernel)]; kernel_rfl) | (rw [if_neg (by decide +kernel)]; exact ⟨rfl, rfl⟩))
    (fun os started H enc _ => FnExactSpanOk_lifted os started H enc)
#print axioms FnExactSpanOk_holds
end Go.Proofs.Ytphajelacigokaa
