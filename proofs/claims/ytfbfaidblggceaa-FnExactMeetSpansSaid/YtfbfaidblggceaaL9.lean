/- FnExactMeetSpans returns true for every argument, and leaves it as it was. No condition. -/
import Derived.Test.YtfbfaidblggceaaMs
import Derived.Test.YtfbfaidblggceaaRst
import Derived.Test.YtfbfaidblggceaaCv
set_option linter.unusedVariables false
set_option linter.unusedSimpArgs false
namespace Go.Proofs.Ytfbfaidblggceaa
open Go.ChangeShapes Go.WideShapes Go.ChangeAt Go.RowKit Go.Joins

theorem eqRatio_same (a b : Int) (w : World) : Calls Try.prog 21 #[.agg #[.int .i64 a, .int .i64 b], .agg #[.int .i64 a, .int .i64 b]] w fun e w' => e = .returned (.bool true) ∧ Below w.heap.size w w' := by
  go_enter Try.func21, Try.ntmps21
  go_wp2
  go_ret
  exact ⟨rfl, (by repeat (first | exact Below.refl _ _ | refine below_ov _ _ ?_ (by simp [ov_size] <;> omega) | refine Below.alloc ?_ (by simp [ov_size] <;> omega) _ | refine Below.setCell ?_ (by simp [ov_size] <;> omega) _ | refine Below.drew ?_ | refine below_drewN ?_ _))⟩
theorem eqSpan_same (a b c d : Int) (w : World) : Calls Try.prog 12 #[.agg #[.int .i64 a, .int .i64 b, .int .i64 c, .int .i64 d], .agg #[.int .i64 a, .int .i64 b, .int .i64 c, .int .i64 d]] w fun e w' => e = .returned (.bool true) ∧ Below w.heap.size w w' := by
  go_enter Try.func12, Try.ntmps12
  go_wp2_with ((go_at_call 21; refine (calls_ov (eqRatio_same _ _ _)).mono ?_; rintro e w' ⟨rfl, x, rfl⟩))
  go_ret
  exact ⟨rfl, (by repeat (first | exact Below.refl _ _ | refine below_ov _ _ ?_ (by simp [ov_size] <;> omega) | refine Below.alloc ?_ (by simp [ov_size] <;> omega) _ | refine Below.setCell ?_ (by simp [ov_size] <;> omega) _ | refine Below.drew ?_ | refine below_drewN ?_ _))⟩

theorem assign1 {P : Program} {ops : Array Oper} {Q : Exit → Act → World → Prop} {o : Oper} {rest : List Oper} {a : Act} {w : World} (hg : o.guard = none) (x : Operand) (hop : o.op = .assign x)
    (h : wpList P ops Q rest (a.put o.dst (a.eval x)) w) : wpList P ops Q (o :: rest) a w :=
  wpList_plain hg fun _ hK => by
    unfold Oper.wp
    rw [BigFrame.run_assign x hop]
    exact hK _ _ h

set_option maxHeartbeats 4000000 in
theorem law9_any {n d m e n' d' m' e' : Int} (w : World) (hn : -9223372036854775808 ≤ n ∧ n ≤ 9223372036854775807) (hd : -9223372036854775808 ≤ d ∧ d ≤ 9223372036854775807) (hm : -9223372036854775808 ≤ m ∧ m ≤ 9223372036854775807) (he : -9223372036854775808 ≤ e ∧ e ≤ 9223372036854775807) (hn' : -9223372036854775808 ≤ n' ∧ n' ≤ 9223372036854775807) (hd' : -9223372036854775808 ≤ d' ∧ d' ≤ 9223372036854775807) (hm' : -9223372036854775808 ≤ m' ∧ m' ≤ 9223372036854775807) (he' : -9223372036854775808 ≤ e' ∧ e' ≤ 9223372036854775807) :
    Calls Try.prog 4 #[.agg #[.int .i64 n, .int .i64 d, .int .i64 m, .int .i64 e], .agg #[.int .i64 n', .int .i64 d', .int .i64 m', .int .i64 e']] w fun en w' => en = .returned (.bool true) ∧ Below w.heap.size w w' := by
  obtain ⟨⟨r0, r1, r2, r3, rb⟩, hr⟩ : ∃ z, meetS n d m e n' d' m' e' = z := ⟨_, rfl⟩
  have HR := Lib.hid hr
  clear hr
  go_enter Try.func4, Try.ntmps4
  go_wp2
  refine wp_region_rel [.pur [] ?c0, .pur [] ?c1, .pur [] ?c2, .pur [] ?c3, .pur [] ?c4, .pur [] ?c5, .pur [] ?c6, .pur [] ?c7, .rel [] [8] false (IsAl 29 4), .rel [8, 6] [8, 6] true (IsSt 29), .pur [] ?c10] _ rfl rfl (by kernel_rfl) (by kernel_rfl) ?hst (fun vs => ?walk)
  case' walk =>
    (refine wpRel_pur rfl rfl (fun x => by ((go_wp2); refine relEnd_pur rfl ?_ (by repeat (first | exact Below.refl _ _ | refine below_ov _ _ ?_ (by simp [ov_size] <;> omega) | refine Below.alloc ?_ (by simp [ov_size] <;> omega) _ | refine Below.setCell ?_ (by simp [ov_size] <;> omega) _ | refine Below.drew ?_ | refine below_drewN ?_ _)); simp only [Act.put, List.setIfInBounds_toArray, List.set_cons_succ, List.set_cons_zero]; rfl)) ?_; simp only [Act.put, List.setIfInBounds_toArray, List.set_cons_succ, List.set_cons_zero])
    (refine wpRel_pur rfl rfl (fun x => by ((go_wp2_with (first | (go_at_call 8; refine (calls_ov (toSpan_any _ _ _ _ _)).mono ?_; rintro e w' ⟨rfl, x, rfl⟩))); refine relEnd_pur rfl ?_ (by repeat (first | exact Below.refl _ _ | refine below_ov _ _ ?_ (by simp [ov_size] <;> omega) | refine Below.alloc ?_ (by simp [ov_size] <;> omega) _ | refine Below.setCell ?_ (by simp [ov_size] <;> omega) _ | refine Below.drew ?_ | refine below_drewN ?_ _)); simp only [Act.put, List.setIfInBounds_toArray, List.set_cons_succ, List.set_cons_zero]; rfl)) ?_; simp only [Act.put, List.setIfInBounds_toArray, List.set_cons_succ, List.set_cons_zero])
    (refine wpRel_pur rfl rfl (fun x => by ((go_wp2); refine relEnd_pur rfl ?_ (by repeat (first | exact Below.refl _ _ | refine below_ov _ _ ?_ (by simp [ov_size] <;> omega) | refine Below.alloc ?_ (by simp [ov_size] <;> omega) _ | refine Below.setCell ?_ (by simp [ov_size] <;> omega) _ | refine Below.drew ?_ | refine below_drewN ?_ _)); simp only [Act.put, List.setIfInBounds_toArray, List.set_cons_succ, List.set_cons_zero]; rfl)) ?_; simp only [Act.put, List.setIfInBounds_toArray, List.set_cons_succ, List.set_cons_zero])
    (refine wpRel_pur rfl rfl (fun x => by ((go_wp2_with (first | (go_at_call 8; refine (calls_ov (toSpan_any _ _ _ _ _)).mono ?_; rintro e w' ⟨rfl, x, rfl⟩))); refine relEnd_pur rfl ?_ (by repeat (first | exact Below.refl _ _ | refine below_ov _ _ ?_ (by simp [ov_size] <;> omega) | refine Below.alloc ?_ (by simp [ov_size] <;> omega) _ | refine Below.setCell ?_ (by simp [ov_size] <;> omega) _ | refine Below.drew ?_ | refine below_drewN ?_ _)); simp only [Act.put, List.setIfInBounds_toArray, List.set_cons_succ, List.set_cons_zero]; rfl)) ?_; simp only [Act.put, List.setIfInBounds_toArray, List.set_cons_succ, List.set_cons_zero])
    (refine wpRel_pur rfl rfl (fun x => by ((go_wp2_with (first | (go_at_call 10; refine (calls_ov (spec_MeetSpans_eq hn hd hm he hn' hd' hm' he' HR)).mono ?_; rintro e w' ⟨rfl, x, rfl⟩))); refine relEnd_pur rfl ?_ (by repeat (first | exact Below.refl _ _ | refine below_ov _ _ ?_ (by simp [ov_size] <;> omega) | refine Below.alloc ?_ (by simp [ov_size] <;> omega) _ | refine Below.setCell ?_ (by simp [ov_size] <;> omega) _ | refine Below.drew ?_ | refine below_drewN ?_ _)); simp only [Act.put, List.setIfInBounds_toArray, List.set_cons_succ, List.set_cons_zero]; rfl)) ?_; simp only [Act.put, List.setIfInBounds_toArray, List.set_cons_succ, List.set_cons_zero])
    (refine wpRel_pur rfl rfl (fun x => by ((go_wp2); refine relEnd_pur rfl ?_ (by repeat (first | exact Below.refl _ _ | refine below_ov _ _ ?_ (by simp [ov_size] <;> omega) | refine Below.alloc ?_ (by simp [ov_size] <;> omega) _ | refine Below.setCell ?_ (by simp [ov_size] <;> omega) _ | refine Below.drew ?_ | refine below_drewN ?_ _)); simp only [Act.put, List.setIfInBounds_toArray, List.set_cons_succ, List.set_cons_zero]; rfl)) ?_; simp only [Act.put, List.setIfInBounds_toArray, List.set_cons_succ, List.set_cons_zero])
    (refine wpRel_pur rfl rfl (fun x => by ((go_wp2); refine relEnd_pur rfl ?_ (by repeat (first | exact Below.refl _ _ | refine below_ov _ _ ?_ (by simp [ov_size] <;> omega) | refine Below.alloc ?_ (by simp [ov_size] <;> omega) _ | refine Below.setCell ?_ (by simp [ov_size] <;> omega) _ | refine Below.drew ?_ | refine below_drewN ?_ _)); simp only [Act.put, List.setIfInBounds_toArray, List.set_cons_succ, List.set_cons_zero]; rfl)) ?_; simp only [Act.put, List.setIfInBounds_toArray, List.set_cons_succ, List.set_cons_zero])
    (refine wpRel_pur rfl rfl (fun x => by ((go_wp2); refine relEnd_pur rfl ?_ (by repeat (first | exact Below.refl _ _ | refine below_ov _ _ ?_ (by simp [ov_size] <;> omega) | refine Below.alloc ?_ (by simp [ov_size] <;> omega) _ | refine Below.setCell ?_ (by simp [ov_size] <;> omega) _ | refine Below.drew ?_ | refine below_drewN ?_ _)); simp only [Act.put, List.setIfInBounds_toArray, List.set_cons_succ, List.set_cons_zero]; rfl)) ?_; simp only [Act.put, List.setIfInBounds_toArray, List.set_cons_succ, List.set_cons_zero])
    refine wpRel_al #[.int .i64 0, .int .i64 0, .int .i64 0, .int .i64 0] rfl rfl rfl rfl rfl rfl (fun w => by simp [go_sem]) ?_
    simp only [Act.put, List.setIfInBounds_toArray, List.set_cons_succ, List.set_cons_zero]
    refine wpRel_st rfl rfl rfl rfl rfl rfl (by decide) (by decide) rfl rfl (by kernel_rfl) ⟨rfl, by simp [Value.cells, Value.oneCell']⟩ (by repeat (first | exact all_nil | refine all_cons trivial ?_ | refine all_cons isAl_steady ?_ | refine all_cons (isOw_steady (by assumption)) ?_)) ?_
    (refine wpRel_pur rfl rfl (fun x => by ((go_wp2); refine relEnd_pur rfl ?_ (by repeat (first | exact Below.refl _ _ | refine below_ov _ _ ?_ (by simp [ov_size] <;> omega) | refine Below.alloc ?_ (by simp [ov_size] <;> omega) _ | refine Below.setCell ?_ (by simp [ov_size] <;> omega) _ | refine Below.drew ?_ | refine below_drewN ?_ _)); simp only [Act.put, List.setIfInBounds_toArray, List.set_cons_succ, List.set_cons_zero]; rfl)) ?_; simp only [Act.put, List.setIfInBounds_toArray, List.set_cons_succ, List.set_cons_zero])
    refine wpRel_nil (fun px hh => ?_)
    obtain ⟨pb, e, hb, hx⟩ := isSt_pur (hh 9) rfl rfl rfl
    simp only [e]
    clear hh e
    have p0 := cell_blk (j := 0) hx rfl
    have p1 := cell_blk (j := 1) hx rfl
    have p2 := cell_blk (j := 2) hx rfl
    have p3 := cell_blk (j := 3) hx rfl
    have pl := (Array.getElem?_eq_some_iff.1 hx).1
    clear hx hb vs
    go_wp2
  case' hst => exact (by repeat (first | exact all_nil | refine all_cons trivial ?_ | refine all_cons isAl_stable ?_ | refine all_cons isSt_stable ?_ | refine all_cons (isOw_stable (by assumption)) ?_))
  refine wp_region_rel [.pur [] ?qc0, .pur [] ?qc1, .pur [] ?qc2, .pur [] ?qc3, .pur [] ?qc4, .pur [] ?qc5, .pur [] ?qc6, .pur [] ?qc7, .rel [] [8] false (IsAl 29 4), .rel [8, 6] [8, 6] true (IsSt 29), .pur [] ?qc10] _ rfl rfl (by kernel_rfl) (by kernel_rfl) ?qhst (fun vs => ?qwalk)
  case' qwalk =>
    (refine wpRel_pur rfl rfl (fun x => by ((go_wp2); refine relEnd_pur rfl ?_ (by repeat (first | exact Below.refl _ _ | refine below_ov _ _ ?_ (by simp [ov_size] <;> omega) | refine Below.alloc ?_ (by simp [ov_size] <;> omega) _ | refine Below.setCell ?_ (by simp [ov_size] <;> omega) _ | refine Below.drew ?_ | refine below_drewN ?_ _)); simp only [Act.put, List.setIfInBounds_toArray, List.set_cons_succ, List.set_cons_zero]; rfl)) ?_; simp only [Act.put, List.setIfInBounds_toArray, List.set_cons_succ, List.set_cons_zero])
    (refine wpRel_pur rfl rfl (fun x => by ((go_wp2_with (first | (go_at_call 8; refine (calls_ov (toSpan_any _ _ _ _ _)).mono ?_; rintro e w' ⟨rfl, x, rfl⟩))); refine relEnd_pur rfl ?_ (by repeat (first | exact Below.refl _ _ | refine below_ov _ _ ?_ (by simp [ov_size] <;> omega) | refine Below.alloc ?_ (by simp [ov_size] <;> omega) _ | refine Below.setCell ?_ (by simp [ov_size] <;> omega) _ | refine Below.drew ?_ | refine below_drewN ?_ _)); simp only [Act.put, List.setIfInBounds_toArray, List.set_cons_succ, List.set_cons_zero]; rfl)) ?_; simp only [Act.put, List.setIfInBounds_toArray, List.set_cons_succ, List.set_cons_zero])
    (refine wpRel_pur rfl rfl (fun x => by ((go_wp2); refine relEnd_pur rfl ?_ (by repeat (first | exact Below.refl _ _ | refine below_ov _ _ ?_ (by simp [ov_size] <;> omega) | refine Below.alloc ?_ (by simp [ov_size] <;> omega) _ | refine Below.setCell ?_ (by simp [ov_size] <;> omega) _ | refine Below.drew ?_ | refine below_drewN ?_ _)); simp only [Act.put, List.setIfInBounds_toArray, List.set_cons_succ, List.set_cons_zero]; rfl)) ?_; simp only [Act.put, List.setIfInBounds_toArray, List.set_cons_succ, List.set_cons_zero])
    (refine wpRel_pur rfl rfl (fun x => by ((go_wp2_with (first | (go_at_call 8; refine (calls_ov (toSpan_any _ _ _ _ _)).mono ?_; rintro e w' ⟨rfl, x, rfl⟩))); refine relEnd_pur rfl ?_ (by repeat (first | exact Below.refl _ _ | refine below_ov _ _ ?_ (by simp [ov_size] <;> omega) | refine Below.alloc ?_ (by simp [ov_size] <;> omega) _ | refine Below.setCell ?_ (by simp [ov_size] <;> omega) _ | refine Below.drew ?_ | refine below_drewN ?_ _)); simp only [Act.put, List.setIfInBounds_toArray, List.set_cons_succ, List.set_cons_zero]; rfl)) ?_; simp only [Act.put, List.setIfInBounds_toArray, List.set_cons_succ, List.set_cons_zero])
    (refine wpRel_pur rfl rfl (fun x => by ((go_wp2_with (first | (go_at_call 11; refine (calls_ov (impl_MeetSpans_eq hn hd hm he hn' hd' hm' he' HR)).mono ?_; rintro e w' ⟨rfl, x, rfl⟩))); refine relEnd_pur rfl ?_ (by repeat (first | exact Below.refl _ _ | refine below_ov _ _ ?_ (by simp [ov_size] <;> omega) | refine Below.alloc ?_ (by simp [ov_size] <;> omega) _ | refine Below.setCell ?_ (by simp [ov_size] <;> omega) _ | refine Below.drew ?_ | refine below_drewN ?_ _)); simp only [Act.put, List.setIfInBounds_toArray, List.set_cons_succ, List.set_cons_zero]; rfl)) ?_; simp only [Act.put, List.setIfInBounds_toArray, List.set_cons_succ, List.set_cons_zero])
    (refine wpRel_pur rfl rfl (fun x => by ((go_wp2); refine relEnd_pur rfl ?_ (by repeat (first | exact Below.refl _ _ | refine below_ov _ _ ?_ (by simp [ov_size] <;> omega) | refine Below.alloc ?_ (by simp [ov_size] <;> omega) _ | refine Below.setCell ?_ (by simp [ov_size] <;> omega) _ | refine Below.drew ?_ | refine below_drewN ?_ _)); simp only [Act.put, List.setIfInBounds_toArray, List.set_cons_succ, List.set_cons_zero]; rfl)) ?_; simp only [Act.put, List.setIfInBounds_toArray, List.set_cons_succ, List.set_cons_zero])
    (refine wpRel_pur rfl rfl (fun x => by ((go_wp2); refine relEnd_pur rfl ?_ (by repeat (first | exact Below.refl _ _ | refine below_ov _ _ ?_ (by simp [ov_size] <;> omega) | refine Below.alloc ?_ (by simp [ov_size] <;> omega) _ | refine Below.setCell ?_ (by simp [ov_size] <;> omega) _ | refine Below.drew ?_ | refine below_drewN ?_ _)); simp only [Act.put, List.setIfInBounds_toArray, List.set_cons_succ, List.set_cons_zero]; rfl)) ?_; simp only [Act.put, List.setIfInBounds_toArray, List.set_cons_succ, List.set_cons_zero])
    (refine wpRel_pur rfl rfl (fun x => by ((go_wp2); refine relEnd_pur rfl ?_ (by repeat (first | exact Below.refl _ _ | refine below_ov _ _ ?_ (by simp [ov_size] <;> omega) | refine Below.alloc ?_ (by simp [ov_size] <;> omega) _ | refine Below.setCell ?_ (by simp [ov_size] <;> omega) _ | refine Below.drew ?_ | refine below_drewN ?_ _)); simp only [Act.put, List.setIfInBounds_toArray, List.set_cons_succ, List.set_cons_zero]; rfl)) ?_; simp only [Act.put, List.setIfInBounds_toArray, List.set_cons_succ, List.set_cons_zero])
    refine wpRel_al #[.int .i64 0, .int .i64 0, .int .i64 0, .int .i64 0] rfl rfl rfl rfl rfl rfl (fun w => by simp [go_sem]) ?_
    simp only [Act.put, List.setIfInBounds_toArray, List.set_cons_succ, List.set_cons_zero]
    refine wpRel_st rfl rfl rfl rfl rfl rfl (by decide) (by decide) rfl rfl (by kernel_rfl) ⟨rfl, by simp [Value.cells, Value.oneCell']⟩ (by repeat (first | exact all_nil | refine all_cons trivial ?_ | refine all_cons isAl_steady ?_ | refine all_cons (isOw_steady (by assumption)) ?_)) ?_
    (refine wpRel_pur rfl rfl (fun x => by ((go_wp2); refine relEnd_pur rfl ?_ (by repeat (first | exact Below.refl _ _ | refine below_ov _ _ ?_ (by simp [ov_size] <;> omega) | refine Below.alloc ?_ (by simp [ov_size] <;> omega) _ | refine Below.setCell ?_ (by simp [ov_size] <;> omega) _ | refine Below.drew ?_ | refine below_drewN ?_ _)); simp only [Act.put, List.setIfInBounds_toArray, List.set_cons_succ, List.set_cons_zero]; rfl)) ?_; simp only [Act.put, List.setIfInBounds_toArray, List.set_cons_succ, List.set_cons_zero])
    refine wpRel_nil (fun qx hh => ?_)
    obtain ⟨qb, e, hb, hx⟩ := isSt_pur (hh 9) rfl rfl rfl
    simp only [e]
    clear hh e
    have q0 := cell_blk (j := 0) hx rfl
    have q1 := cell_blk (j := 1) hx rfl
    have q2 := cell_blk (j := 2) hx rfl
    have q3 := cell_blk (j := 3) hx rfl
    have ql := (Array.getElem?_eq_some_iff.1 hx).1
    clear hx hb vs
    go_wp2
  case' qhst => exact (by repeat (first | exact all_nil | refine all_cons trivial ?_ | refine all_cons isAl_stable ?_ | refine all_cons isSt_stable ?_ | refine all_cons (isOw_stable (by assumption)) ?_))
  go_wp2_with ((go_at_call 12; refine (calls_ov (eqSpan_same _ _ _ _ _)).mono ?_; rintro e w' ⟨rfl, x, rfl⟩))
  go_ret
  exact ⟨rfl, (by repeat (first | exact Below.refl _ _ | refine below_ov _ _ ?_ (by simp [ov_size] <;> omega) | refine Below.alloc ?_ (by simp [ov_size] <;> omega) _ | refine Below.setCell ?_ (by simp [ov_size] <;> omega) _ | refine Below.drew ?_ | refine below_drewN ?_ _))⟩

set_option maxRecDepth 100000 in
theorem FnExactMeetSpans_lifted (os : Os) (started : os.Started) (H : Type) (enc : TypeId × Value → H) :
    ReturnsInHanded {} Try.checked os 4 .any (Rows.fnExactMeetSpansSpec.pre6 enc Try.prog Try.f4 Rows.fnExactMeetSpansRow.domain false) (Rows.fnExactMeetSpansSpec.post enc Try.prog Try.f4 false true false false) := by
  refine returnsInHanded_of_change (C := Try.checked) own started (by kernel_rfl) Try.func4
    (ChangeSpec.witness6 (enc := enc) (C := Try.checked) false ⟨#[], #[.agg #[.int .i64 0, .int .i64 0, .int .i64 0, .int .i64 0], .agg #[.int .i64 0, .int .i64 0, .int .i64 0, .int .i64 0]], []⟩ 8 (by kernel_rfl) (by kernel_rfl) (by kernel_rfl) (by kernel_rfl)) ?_
  intro W base args ds gs before hval0 hW hcnd _
  have hval : ∀ (j : Nat) t v, Try.f4.params[j]? = some t → args[j]? = some v → Value.okWide Try.prog W .any base t v := hval0
  have hW' := hW
  obtain ⟨p, q, hA0, hV, rfl, hfz, hnd⟩ := hW
  have hA : DataW.TrodAll enc Try.prog W 0 (fun _ => true) true Try.f4.params.toList args.toList ds p := hA0
  rw [Try.params4] at hA hval
  obtain ⟨v0, vs0, d0, ds0, p0, q0, hargs0, rfl, rfl, h0, r0⟩ := trodAll_cons hA
  obtain ⟨v1, vs1, d1, ds1, p1, q1, hargs1, rfl, rfl, h1, r1⟩ := trodAll_cons r0
  obtain ⟨rfl, rfl, rfl⟩ := trodAll_nil r1
  obtain rfl : args = #[v0, v1] := by cases args; simp_all
  obtain ⟨rfl, rfl⟩ := trodVars_none hV
  have k0 := h0
  have lt0 : ∀ x ∈ p0, x.block < W.heap.size := by obtain ⟨m, hm⟩ := k0; exact DataW.trod_lt m _ _ _ hm
  have k1 := h1
  have lt1 : ∀ x ∈ p1, x.block < W.heap.size := by obtain ⟨m, hm⟩ := k1; exact DataW.trod_lt m _ _ _ hm
  have hv0 := hval 0 25 v0 rfl rfl
  have hv1 := hval 1 25 v1 rfl rfl
  obtain ⟨x0, x1, x2, x3, rfl, b0, b1, b2, b3⟩ := open_span hv0 h0
  obtain ⟨x4, x5, x6, x7, rfl, b4, b5, b6, b7⟩ := open_span hv1 h1
  clear hA0 hval0
  refine (law9_any W b0 b1 b2 b3 b4 b5 b6 b7).mono fun e W' ⟨he, bel⟩ => ?_
  subst he
  exact ⟨_, rfl, _, _, _, [], _, [], hW', trodAll_mk1 (shut_bool Try.underlying4 _), (trodAll_cons_mk (Below.trod laidOut (by kernel_rfl) (of_decide_eq_true (by kernel_rfl)) k0 bel lt0) (trodAll_cons_mk (Below.trod laidOut (by kernel_rfl) (of_decide_eq_true (by kernel_rfl)) k1 bel lt1) trodAll_mk0)), rfl, bel.frame _, fun h => by cases h⟩

theorem FnExactMeetSpans_holds : Rows.FnExactMeetSpansSaid :=
  OpenClaim.holds_of_wide 4 Try.f4 rfl rfl rfl rfl rfl rfl rfl ⟨rfl, rfl, rfl, rfl, rfl⟩ rfl rfl rfl rfl rfl (by kernel_rfl) Try.func4 (by kernel_rfl)
    (of_decide_eq_true (by kernel_rfl)) (by unfold Func.isWrapper; first | (rw [if_pos (by decide +kernel)]; kernel_rfl) | (rw [if_neg (by decide +kernel)]; exact ⟨rfl, rfl⟩))
    (fun os started H enc _ => FnExactMeetSpans_lifted os started H enc)
#print axioms FnExactMeetSpans_holds
end Go.Proofs.Ytfbfaidblggceaa
