/- FnExactPickInput returns true for every argument, and leaves it as it was. No condition. -/
import Derived.Test.YtfbfaidblggceaaPk
import Derived.Test.YtfbfaidblggceaaCv
set_option linter.unusedVariables false
set_option linter.unusedSimpArgs false
namespace Go.Proofs.Ytfbfaidblggceaa
open Go.ChangeShapes Go.WideShapes Go.ChangeAt Go.RowKit Go.Joins

theorem eqRatio_same (a b : Int) (w : World) : Calls Try.prog 21 #[.agg #[.int .i64 a, .int .i64 b], .agg #[.int .i64 a, .int .i64 b]] w fun e w' => e = .returned (.bool true) ∧ Below w.heap.size w w' := by
  go_enter Try.func21, Try.ntmps21
  go_wp2
  go_ret
  exact ⟨rfl, (by repeat (first | exact Below.refl _ _ | refine below_ov _ _ ?_ (by simp [ov_size] <;> omega) | refine Below.alloc ?_ (by simp [ov_size] <;> omega) _ | refine Below.setCell ?_ (by simp [ov_size] <;> omega) _ | refine Below.drew ?_ | refine below_drewN ?_ _))⟩

theorem law11_any {n d m e k : Int} (w : World) (hn : -9223372036854775808 ≤ n ∧ n ≤ 9223372036854775807) (hd : -9223372036854775808 ≤ d ∧ d ≤ 9223372036854775807) (hm : -9223372036854775808 ≤ m ∧ m ≤ 9223372036854775807) (he : -9223372036854775808 ≤ e ∧ e ≤ 9223372036854775807) (hk : -9223372036854775808 ≤ k ∧ k ≤ 9223372036854775807) :
    Calls Try.prog 6 #[.agg #[.int .i64 n, .int .i64 d, .int .i64 m, .int .i64 e], .int .i64 k] w fun e' w' => e' = .returned (.bool true) ∧ Below w.heap.size w w' := by
  obtain ⟨⟨p, q⟩, hr⟩ : ∃ z, pickS n d m e k = z := ⟨_, rfl⟩
  have HR := Lib.hid hr
  clear hr
  go_enter Try.func6, Try.ntmps6
  go_wp2_with (first | (go_at_call 8; (first | (with_reducible refine (calls_ov2 (toSpan_any _ _ _ _ _)).mono ?_) | refine (calls_ov (toSpan_any _ _ _ _ _)).mono ?_); rintro e w' ⟨rfl, x, rfl⟩) | (go_at_call 20; (first | (with_reducible refine (calls_ov2 (spec_PickInput_eq hn hd hm he hk HR)).mono ?_) | refine (calls_ov (spec_PickInput_eq hn hd hm he hk HR)).mono ?_); rintro e w' ⟨rfl, x, rfl⟩) | (go_at_call 16; (first | (with_reducible refine (calls_ov2 (impl_PickInput_eq hn hd hm he hk HR)).mono ?_) | refine (calls_ov (impl_PickInput_eq hn hd hm he hk HR)).mono ?_); rintro e w' ⟨rfl, x, rfl⟩) | (go_at_call 21; (first | (with_reducible refine (calls_ov2 (eqRatio_same _ _ _)).mono ?_) | refine (calls_ov (eqRatio_same _ _ _)).mono ?_); rintro e w' ⟨rfl, x, rfl⟩))
  go_ret
  exact ⟨rfl, (by repeat (first | exact Below.refl _ _ | refine below_ov _ _ ?_ (by simp [ov_size] <;> omega) | refine Below.alloc ?_ (by simp [ov_size] <;> omega) _ | refine Below.setCell ?_ (by simp [ov_size] <;> omega) _ | refine Below.drew ?_ | refine below_drewN ?_ _))⟩

set_option maxRecDepth 100000 in
theorem FnExactPickInput_lifted (os : Os) (started : os.Started) (H : Type) (enc : TypeId × Value → H) :
    ReturnsInHanded {} Try.checked os 6 .any (Rows.fnExactPickInputSpec.pre6 enc Try.prog Try.f6 Rows.fnExactPickInputRow.domain false) (Rows.fnExactPickInputSpec.post enc Try.prog Try.f6 false true false false) := by
  refine returnsInHanded_of_change (C := Try.checked) own started (by kernel_rfl) Try.func6
    (ChangeSpec.witness6 (enc := enc) (C := Try.checked) false ⟨#[], #[.agg #[.int .i64 0, .int .i64 0, .int .i64 0, .int .i64 0], .int .i64 0], []⟩ 8 (by kernel_rfl) (by kernel_rfl) (by kernel_rfl) (by kernel_rfl)) ?_
  intro W base args ds gs before hval0 hW hcnd _
  have hval : ∀ (j : Nat) t v, Try.f6.params[j]? = some t → args[j]? = some v → Value.okWide Try.prog W .any base t v := hval0
  have hW' := hW
  obtain ⟨p, q, hA0, hV, rfl, hfz, hnd⟩ := hW
  have hA : DataW.TrodAll enc Try.prog W 0 (fun _ => true) true Try.f6.params.toList args.toList ds p := hA0
  rw [Try.params6] at hA hval
  obtain ⟨v0, vs0, d0, ds0, p0, q0, hargs0, rfl, rfl, h0, r0⟩ := trodAll_cons hA
  obtain ⟨v1, vs1, d1, ds1, p1, q1, hargs1, rfl, rfl, h1, r1⟩ := trodAll_cons r0
  obtain ⟨rfl, rfl, rfl⟩ := trodAll_nil r1
  obtain rfl : args = #[v0, v1] := by cases args; simp_all
  obtain ⟨rfl, rfl⟩ := trodVars_none hV
  have k0 := h0
  have lt0 : ∀ x ∈ p0, x.block < W.heap.size := by obtain ⟨m, hm⟩ := k0; exact DataW.trod_lt m _ _ _ hm
  have k1 := h1
  have lt1 : ∀ x ∈ p1, x.block < W.heap.size := by obtain ⟨m, hm⟩ := k1; exact DataW.trod_lt m _ _ _ hm
  have hv0 := hval 0 25 v0 rfl rfl
  have hv1 := hval 1 3 v1 rfl rfl
  obtain ⟨x0, x1, x2, x3, rfl, b0, b1, b2, b3⟩ := open_span hv0 h0
  obtain ⟨x4, rfl, _, _, wf4⟩ := open_int Try.underlying3 hv1 h1
  have b4 := wf_bd wf4
  clear hA0 hval0
  refine (law11_any W b0 b1 b2 b3 b4).mono fun e W' ⟨he, bel⟩ => ?_
  subst he
  exact ⟨_, rfl, _, _, _, [], _, [], hW', trodAll_mk1 (shut_bool Try.underlying4 _), (trodAll_cons_mk (Below.trod laidOut (by kernel_rfl) (of_decide_eq_true (by kernel_rfl)) k0 bel lt0) (trodAll_cons_mk (Below.trod laidOut (by kernel_rfl) (of_decide_eq_true (by kernel_rfl)) k1 bel lt1) trodAll_mk0)), rfl, bel.frame _, fun h => by cases h⟩

theorem FnExactPickInput_holds : Rows.FnExactPickInputSaid :=
  OpenClaim.holds_of_wide 6 Try.f6 rfl rfl rfl rfl rfl rfl rfl ⟨rfl, rfl, rfl, rfl, rfl⟩ rfl rfl rfl rfl rfl (by kernel_rfl) Try.func6 (by kernel_rfl)
    (of_decide_eq_true (by kernel_rfl)) (by unfold Func.isWrapper; first | (rw [if_pos (by decide +kernel)]; kernel_rfl) | (rw [if_neg (by decide +kernel)]; exact ⟨rfl, rfl⟩))
    (fun os started H enc _ => FnExactPickInput_lifted os started H enc)
#print axioms FnExactPickInput_holds
end Go.Proofs.Ytfbfaidblggceaa
