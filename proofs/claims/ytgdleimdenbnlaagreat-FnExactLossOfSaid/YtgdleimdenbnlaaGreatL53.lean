/- FnExactLossOf returns true for every argument, and leaves it as it was. No condition. -/
import Derived.Test.YtgdleimdenbnlaaGreatQq2
set_option linter.unusedVariables false
set_option linter.unusedSimpArgs false
set_option linter.unusedSectionVars false
namespace Go.Proofs.YtgdleimdenbnlaaGreat
open Go.ChangeShapes Go.WideShapes Go.ChangeAt Go.RowKit Go.Joins

set_option maxRecDepth 100000 in
set_option maxHeartbeats 8000000 in
theorem law53_any {rr : RoomV} {Arr1 Arr2 Arr3 : Option Addr} {crr1 crr2 crr3 : Nat} {n1 : Int} (w : World) (Rrr : RLM w rr Arr1 Arr2 Arr3) (hlrr : rr.InL) (hn1 : -9223372036854775808 ≤ n1 ∧ n1 ≤ 9223372036854775807) :
    Calls Tryz.prog 13 #[.agg #[.slice Arr1 rr.m.length crr1, .int .i64 rr.q, .int .i64 rr.bx, .int .i64 rr.by_, .int .i64 rr.lo, .int .i64 rr.hi, .slice Arr2 rr.ns.length crr2, .slice Arr3 rr.ls.length crr3], .int .i64 n1] w fun e w' => e = .returned (.bool true) ∧ Below w.heap.size w w' := by
  obtain ⟨zrr, hzrr⟩ : ∃ z, szRm rr (1048576 : Int) = z := ⟨_, rfl⟩
  have HZrr := Lib.hid hzrr
  by_cases hcrr : zrr < 0
  · clear hzrr
    go_enter Tryz.func13, Tryz.ntmps13
    go_wp2_with (first | (go_at_call 14; (first | (with_reducible refine (calls_ov2 (szRoom_eq HZrr hlrr ⟨by omega, by omega⟩)).mono ?_) | refine (calls_ov (szRoom_eq HZrr hlrr ⟨by omega, by omega⟩)).mono ?_); rintro e w' ⟨rfl, x, rfl⟩))
    go_ret
    exact ⟨rfl, (by repeat (first | exact bR | refine bO ?_ | refine bA ?_ | refine bS ?_ | refine bD ?_ | refine bN ?_))⟩
  have hmrr := szRm_bd hzrr (by omega) (by omega)
  have hmmrr := hmrr.1
  have hmnrr := hmrr.2.1
  have hmlrr := hmrr.2.2.1
  have hzbrr := hmrr.2.2.2
  have hsrr : rr.Short := ⟨hmmrr, hmnrr, hmlrr⟩
  clear hmrr
  obtain ⟨⟨⟨r1, r2⟩, ok⟩, hr⟩ : ∃ r, lossR rr n1 = r := ⟨_, rfl⟩
  have HR := Lib.hid hr
  have ORrr0 := owned_room (T := 43) (by decide) (by decide) rr
  have ORrr1 := owned_room (T := 37) (by decide) (by decide) rr
  have ORrr2 := owned_room (T := 39) (by decide) (by decide) rr
  clear hr hzrr
  have hne : (ok != ok) = false := by simp
  go_enter Tryz.func13, Tryz.ntmps13
  go_wp2_with (first | (go_at_call 14; (first | (with_reducible refine (calls_ov2 (szRoom_eq HZrr hlrr ⟨by omega, by omega⟩)).mono ?_) | refine (calls_ov (szRoom_eq HZrr hlrr ⟨by omega, by omega⟩)).mono ?_); rintro e w' ⟨rfl, x, rfl⟩))
  obtain ⟨V, hV⟩ : ∃ V, (w.alloc (.cells #[.slice Arr1 rr.m.length crr1, .int .i64 rr.q, .int .i64 rr.bx, .int .i64 rr.by_, .int .i64 rr.lo, .int .i64 rr.hi, .slice Arr2 rr.ns.length crr2, .slice Arr3 rr.ls.length crr3] 27)) = V := ⟨_, rfl⟩
  have TV : Below w.heap.size w V := by rw [← hV]; exact (by repeat (first | exact bR | refine bO ?_ | refine bA ?_ | refine bS ?_ | refine bD ?_ | refine bN ?_))
  have X0 : V.heap[w.heap.size]? = some (.cells #[.slice Arr1 rr.m.length crr1, .int .i64 rr.q, .int .i64 rr.bx, .int .i64 rr.by_, .int .i64 rr.lo, .int .i64 rr.hi, .slice Arr2 rr.ns.length crr2, .slice Arr3 rr.ls.length crr3] 27 (0, 0)) := by rw [← hV]; exact (heap_new_at (by simp) rfl)
  rw [hV]
  clear hV
  obtain ⟨W0, hW⟩ : ∃ W0, W0 = ov V x := ⟨_, rfl⟩
  rw [← hW]
  have T : Below V.heap.size V W0 := by rw [hW]; exact (by repeat (first | exact bR | refine bO ?_ | refine bA ?_ | refine bS ?_ | refine bD ?_ | refine bN ?_))
  clear hW
  have Brr := box_below (Lib.hid X0) T
  clear X0
  have s0 : w.heap.size ≤ V.heap.size := TV.size
  have Srr := Rrr.below (TV.trans (T.mono s0))
  refine (toRoom_any rr (Srr.below (by repeat (first | exact bR | refine bO ?_ | refine bA ?_ | refine bS ?_ | refine bD ?_ | refine bN ?_))) hsrr).mono ?_
  rintro e W1 ⟨aurr1, durr1, aurr2, durr2, aurr3, durr3, rfl, Xurr, hb⟩
  have K : Below W0.heap.size W0 W1 := Below.trans (by repeat (first | exact bR | refine bO ?_ | refine bA ?_ | refine bS ?_ | refine bD ?_ | refine bN ?_)) (hb.mono (by first | exact Nat.le_refl _ | simp [ov_size]))
  replace Xurr := Xurr.weak (B' := V.heap.size) (by have := T.size; simp [ov_size]; omega)
  clear hb
  replace T := T.trans (K.mono T.size)
  replace Brr := box_below Brr K
  clear K Srr
  have Srr := Rrr.below (TV.trans (T.mono s0))
  obtain ⟨Brrc0, Brrc1, Brrc2, Brrc3, Brrc4, Brrc5, Brrc6, Brrc7, Brrl⟩ := cb8 Brr
  go_wp2_with fail
  clear Brrc0 Brrc1 Brrc2 Brrc3 Brrc4 Brrc5 Brrc6 Brrc7 Brrl
  refine (calls_ov (spec_LossOf_eq ((Xurr.below (by repeat (first | exact bR | refine bO ?_ | refine bA ?_ | refine bS ?_ | refine bD ?_ | refine bN ?_))).rm) hsrr HR)).mono ?_
  rintro e w' ⟨rfl, x, rfl⟩
  obtain ⟨W2, hW⟩ : ∃ W2, W2 = ov W1 x := ⟨_, rfl⟩
  rw [← hW]
  have K : Below W1.heap.size W1 W2 := by rw [hW]; exact (by repeat (first | exact bR | refine bO ?_ | refine bA ?_ | refine bS ?_ | refine bD ?_ | refine bN ?_))
  clear hW
  replace T := T.trans (K.mono T.size)
  replace Brr := box_below Brr K
  replace Xurr := Xurr.below K
  clear K Srr
  have Srr := Rrr.below (TV.trans (T.mono s0))
  clear Xurr
  obtain ⟨Brrc0, Brrc1, Brrc2, Brrc3, Brrc4, Brrc5, Brrc6, Brrc7, Brrl⟩ := cb8 Brr
  go_wp2_with fail
  clear Brrc0 Brrc1 Brrc2 Brrc3 Brrc4 Brrc5 Brrc6 Brrc7 Brrl
  obtain ⟨bw, hbx⟩ : ∃ b, b = W2.heap.size := ⟨_, rfl⟩
  rw [← hbx]
  obtain ⟨W3, hW⟩ : ∃ W, W = W2.alloc (.cells #[.int .i64 r1, .int .i64 r2] 43) := ⟨_, rfl⟩
  rw [← hW]
  have K : Below W2.heap.size W2 W3 := by rw [hW]; exact (by repeat (first | exact bR | refine bO ?_ | refine bA ?_ | refine bS ?_ | refine bD ?_ | refine bN ?_))
  have Bw := Lib.hid (show W3.heap[bw]? = some (.cells #[.int .i64 r1, .int .i64 r2] 43 (0, 0)) by rw [hW, hbx]; exact heap_alloc_new _ _)
  clear hW hbx
  replace T := T.trans (K.mono T.size)
  replace Brr := box_below Brr K
  clear K Srr
  have Srr := Rrr.below (TV.trans (T.mono s0))
  refine (toRoom_any rr (Srr.below (by repeat (first | exact bR | refine bO ?_ | refine bA ?_ | refine bS ?_ | refine bD ?_ | refine bN ?_))) hsrr).mono ?_
  rintro e W4 ⟨axrr1, dxrr1, axrr2, dxrr2, axrr3, dxrr3, rfl, Xxrr, hb⟩
  have K : Below W3.heap.size W3 W4 := Below.trans (by repeat (first | exact bR | refine bO ?_ | refine bA ?_ | refine bS ?_ | refine bD ?_ | refine bN ?_)) (hb.mono (by first | exact Nat.le_refl _ | simp [ov_size]))
  replace Xxrr := Xxrr.weak (B' := V.heap.size) (by have := T.size; simp [ov_size]; omega)
  clear hb
  replace T := T.trans (K.mono T.size)
  replace Brr := box_below Brr K
  replace Bw := box_below Bw K
  clear K Srr
  have Srr := Rrr.below (TV.trans (T.mono s0))
  obtain ⟨Brrc0, Brrc1, Brrc2, Brrc3, Brrc4, Brrc5, Brrc6, Brrc7, Brrl⟩ := cb8 Brr
  obtain ⟨Bwc0, Bwc1, Bwl⟩ := cb2 Bw
  go_wp2_with fail
  clear Brrc0 Brrc1 Brrc2 Brrc3 Brrc4 Brrc5 Brrc6 Brrc7 Bwc0 Bwc1 Brrl Bwl
  obtain ⟨bxrr, hbx⟩ : ∃ b, b = W4.heap.size := ⟨_, rfl⟩
  rw [← hbx]
  obtain ⟨W5, hW⟩ : ∃ W, W = W4.alloc (.cells #[.slice (some ⟨axrr1, 0, none⟩) rr.m.length dxrr1, .int .i64 rr.q, .int .i64 rr.bx, .int .i64 rr.by_, .int .i64 rr.lo, .int .i64 rr.hi, .slice axrr2 rr.ns.length dxrr2, .slice axrr3 rr.ls.length dxrr3] 39) := ⟨_, rfl⟩
  rw [← hW]
  have K : Below W4.heap.size W4 W5 := by rw [hW]; exact (by repeat (first | exact bR | refine bO ?_ | refine bA ?_ | refine bS ?_ | refine bD ?_ | refine bN ?_))
  have Bxrr := Lib.hid (show W5.heap[bxrr]? = some (.cells #[.slice (some ⟨axrr1, 0, none⟩) rr.m.length dxrr1, .int .i64 rr.q, .int .i64 rr.bx, .int .i64 rr.by_, .int .i64 rr.lo, .int .i64 rr.hi, .slice axrr2 rr.ns.length dxrr2, .slice axrr3 rr.ls.length dxrr3] 39 (0, 0)) by rw [hW, hbx]; exact heap_alloc_new _ _)
  clear hW hbx
  replace T := T.trans (K.mono T.size)
  replace Brr := box_below Brr K
  replace Bw := box_below Bw K
  replace Xxrr := Xxrr.below K
  clear K Srr
  have Srr := Rrr.below (TV.trans (T.mono s0))
  refine (calls_ov (impl_LossOf_eq ((Xxrr.below (by repeat (first | exact bR | refine bO ?_ | refine bA ?_ | refine bS ?_ | refine bD ?_ | refine bN ?_))).rm) hsrr HR)).mono ?_
  rintro e w' ⟨rfl, x, rfl⟩
  obtain ⟨W6, hW⟩ : ∃ W6, W6 = ov W5 x := ⟨_, rfl⟩
  rw [← hW]
  have K : Below W5.heap.size W5 W6 := by rw [hW]; exact (by repeat (first | exact bR | refine bO ?_ | refine bA ?_ | refine bS ?_ | refine bD ?_ | refine bN ?_))
  clear hW
  replace T := T.trans (K.mono T.size)
  replace Brr := box_below Brr K
  replace Bw := box_below Bw K
  replace Bxrr := box_below Bxrr K
  replace Xxrr := Xxrr.below K
  clear K Srr
  have Srr := Rrr.below (TV.trans (T.mono s0))
  obtain ⟨Brrc0, Brrc1, Brrc2, Brrc3, Brrc4, Brrc5, Brrc6, Brrc7, Brrl⟩ := cb8 Brr
  obtain ⟨Bwc0, Bwc1, Bwl⟩ := cb2 Bw
  obtain ⟨Bxrrc0, Bxrrc1, Bxrrc2, Bxrrc3, Bxrrc4, Bxrrc5, Bxrrc6, Bxrrc7, Bxrrl⟩ := cb8 Bxrr
  go_wp2_with fail
  clear Brrc0 Brrc1 Brrc2 Brrc3 Brrc4 Brrc5 Brrc6 Brrc7 Bwc0 Bwc1 Bxrrc0 Bxrrc1 Bxrrc2 Bxrrc3 Bxrrc4 Bxrrc5 Bxrrc6 Bxrrc7 Brrl Bwl Bxrrl
  obtain ⟨bg, hbx⟩ : ∃ b, b = W6.heap.size := ⟨_, rfl⟩
  rw [← hbx]
  obtain ⟨W7, hW⟩ : ∃ W, W = W6.alloc (.cells #[.int .i64 r1, .int .i64 r2] 43) := ⟨_, rfl⟩
  rw [← hW]
  have K : Below W6.heap.size W6 W7 := by rw [hW]; exact (by repeat (first | exact bR | refine bO ?_ | refine bA ?_ | refine bS ?_ | refine bD ?_ | refine bN ?_))
  have Bg := Lib.hid (show W7.heap[bg]? = some (.cells #[.int .i64 r1, .int .i64 r2] 43 (0, 0)) by rw [hW, hbx]; exact heap_alloc_new _ _)
  clear hW hbx
  replace T := T.trans (K.mono T.size)
  replace Brr := box_below Brr K
  replace Bw := box_below Bw K
  replace Bxrr := box_below Bxrr K
  replace Xxrr := Xxrr.below K
  clear K Srr
  have Srr := Rrr.below (TV.trans (T.mono s0))
  refine (calls_ov (eqRatio_same _ _ _)).mono ?_
  rintro e w' ⟨rfl, x, rfl⟩
  obtain ⟨W8, hW⟩ : ∃ W8, W8 = ov W7 x := ⟨_, rfl⟩
  rw [← hW]
  have K : Below W7.heap.size W7 W8 := by rw [hW]; exact (by repeat (first | exact bR | refine bO ?_ | refine bA ?_ | refine bS ?_ | refine bD ?_ | refine bN ?_))
  clear hW
  replace T := T.trans (K.mono T.size)
  replace Brr := box_below Brr K
  replace Bw := box_below Bw K
  replace Bxrr := box_below Bxrr K
  replace Bg := box_below Bg K
  replace Xxrr := Xxrr.below K
  clear K Srr
  have Srr := Rrr.below (TV.trans (T.mono s0))
  obtain ⟨Brrc0, Brrc1, Brrc2, Brrc3, Brrc4, Brrc5, Brrc6, Brrc7, Brrl⟩ := cb8 Brr
  obtain ⟨Bwc0, Bwc1, Bwl⟩ := cb2 Bw
  obtain ⟨Bxrrc0, Bxrrc1, Bxrrc2, Bxrrc3, Bxrrc4, Bxrrc5, Bxrrc6, Bxrrc7, Bxrrl⟩ := cb8 Bxrr
  obtain ⟨Bgc0, Bgc1, Bgl⟩ := cb2 Bg
  go_wp2_with fail
  clear Brrc0 Brrc1 Brrc2 Brrc3 Brrc4 Brrc5 Brrc6 Brrc7 Bwc0 Bwc1 Bxrrc0 Bxrrc1 Bxrrc2 Bxrrc3 Bxrrc4 Bxrrc5 Bxrrc6 Bxrrc7 Bgc0 Bgc1 Brrl Bwl Bxrrl Bgl
  obtain ⟨Brrc0, Brrc1, Brrc2, Brrc3, Brrc4, Brrc5, Brrc6, Brrc7, Brrl⟩ := cb8 Brr
  obtain ⟨Bwc0, Bwc1, Bwl⟩ := cb2 Bw
  obtain ⟨Bxrrc0, Bxrrc1, Bxrrc2, Bxrrc3, Bxrrc4, Bxrrc5, Bxrrc6, Bxrrc7, Bxrrl⟩ := cb8 Bxrr
  obtain ⟨Bgc0, Bgc1, Bgl⟩ := cb2 Bg
  refine wp_region_rel [.pur [] ?d1c0, .pur [] ?d1c1, .rel [] [2] false (IsOw (GRoom rr)), .pur [2] ?d1c3, .pur [] ?d1c4] _ rfl rfl (by kernel_rfl) (by kernel_rfl) ?hstd1 (fun vs => ?walkd1)
  case' walkd1 =>
    (refine wpRel_pur rfl rfl (fun x => by ((go_wp2); refine relEnd_pur rfl ?_ (by repeat (first | exact bR | refine bO ?_ | refine bA ?_ | refine bS ?_ | refine bD ?_ | refine bN ?_)); simp only [Act.put, List.setIfInBounds_toArray, List.set_cons_succ, List.set_cons_zero]; rfl)) ?_; simp only [Act.put, List.setIfInBounds_toArray, List.set_cons_succ, List.set_cons_zero])
    (refine wpRel_pur rfl rfl (fun x => by ((go_wp2); refine relEnd_pur rfl ?_ (by repeat (first | exact bR | refine bO ?_ | refine bA ?_ | refine bS ?_ | refine bD ?_ | refine bN ?_)); simp only [Act.put, List.setIfInBounds_toArray, List.set_cons_succ, List.set_cons_zero]; rfl)) ?_; simp only [Act.put, List.setIfInBounds_toArray, List.set_cons_succ, List.set_cons_zero])
    refine wpRel_own rfl rfl rfl (fun x hh => ?_) ?_
    · go_wp2_with fail
      refine (toRoom_any rr (Srr.below (by repeat (first | exact bR | refine bO ?_ | refine bA ?_ | refine bS ?_ | refine bD ?_ | refine bN ?_))) hsrr).mono ?_
      rintro e w7 ⟨a71, d71, a72, d72, a73, d73, rfl, Q7, hb7⟩
      go_wp2
      refine relEnd_ow rfl rfl ?_ hb7 ⟨a71, d71, a72, d72, a73, d73, rfl, Q7.weak (by rw [ov_size]; omega)⟩
      (simp only [Act.put, List.setIfInBounds_toArray, List.set_cons_succ, List.set_cons_zero] <;> rfl)
    simp only [Act.put, List.setIfInBounds_toArray, List.set_cons_succ, List.set_cons_zero]
    (refine wpRel_purn rfl rfl (fun x hh => by ((obtain ⟨ao21, do21, ao22, do22, ao23, do23, f2, Qo2⟩ := isOw_at (hh 2 (by simp)) rfl; simp only [f2]); (go_wp2_with (first | (go_at_call 22; refine (calls_ov (eqRoom_same (by exact (Xxrr.below (by repeat (first | exact bR | refine bO ?_ | refine bA ?_ | refine bS ?_ | refine bD ?_ | refine bN ?_))).rm) (by first | exact (Qo2.below (by repeat (first | exact bR | refine bO ?_ | refine bA ?_ | refine bS ?_ | refine bD ?_ | refine bN ?_))).rm | exact Qo2.rm) hsrr)).mono ?_; rintro e w' ⟨rfl, x, rfl⟩))); refine relEnd_pur rfl ?_ (by repeat (first | exact bR | refine bO ?_ | refine bA ?_ | refine bS ?_ | refine bD ?_ | refine bN ?_)); simp only [Act.put, List.setIfInBounds_toArray, List.set_cons_succ, List.set_cons_zero]; rfl)) ?_; simp only [Act.put, List.setIfInBounds_toArray, List.set_cons_succ, List.set_cons_zero])
    (refine wpRel_pur rfl rfl (fun x => by ((go_wp2); refine relEnd_pur rfl ?_ (by repeat (first | exact bR | refine bO ?_ | refine bA ?_ | refine bS ?_ | refine bD ?_ | refine bN ?_)); simp only [Act.put, List.setIfInBounds_toArray, List.set_cons_succ, List.set_cons_zero]; rfl)) ?_; simp only [Act.put, List.setIfInBounds_toArray, List.set_cons_succ, List.set_cons_zero])
    refine wpRelE_nilB0 (fun W9 K hh => ?_)
    clear hh
    clear Brrc0 Brrc1 Brrc2 Brrc3 Brrc4 Brrc5 Brrc6 Brrc7 Bwc0 Bwc1 Bxrrc0 Bxrrc1 Bxrrc2 Bxrrc3 Bxrrc4 Bxrrc5 Bxrrc6 Bxrrc7 Bgc0 Bgc1 Brrl Bwl Bxrrl Bgl
    replace T := T.trans (K.mono T.size)
    replace Brr := box_below Brr K
    replace Bw := box_below Bw K
    replace Bxrr := box_below Bxrr K
    replace Bg := box_below Bg K
    replace Xxrr := Xxrr.below K
    clear K Srr
    have Srr := Rrr.below (TV.trans (T.mono s0))
    obtain ⟨Brrc0, Brrc1, Brrc2, Brrc3, Brrc4, Brrc5, Brrc6, Brrc7, Brrl⟩ := cb8 Brr
    obtain ⟨Bwc0, Bwc1, Bwl⟩ := cb2 Bw
    obtain ⟨Bxrrc0, Bxrrc1, Bxrrc2, Bxrrc3, Bxrrc4, Bxrrc5, Bxrrc6, Bxrrc7, Bxrrl⟩ := cb8 Bxrr
    obtain ⟨Bgc0, Bgc1, Bgl⟩ := cb2 Bg
    go_wp2
    go_ret
    exact ⟨rfl, (by repeat (first | exact TV.trans (T.mono s0) | refine bO ?_ | refine bA ?_ | refine bS ?_ | refine bD ?_ | refine bN ?_))⟩
  case' hstd1 => exact (by repeat (first | exact all_nil | refine all_cons trivial ?_ | refine all_cons isAl_stable ?_ | refine all_cons isSt_stable ?_ | refine all_cons isStB_stable ?_ | refine all_cons (isOw_stable (by assumption)) ?_))
set_option maxRecDepth 100000 in
theorem FnExactLossOf_lifted (os : Os) (started : os.Started) (H : Type) (enc : TypeId × Value → H) :
    ReturnsInHanded {} Tryz.checked os 13 .any (Rows.fnExactLossOfSpec.pre6 enc Tryz.prog Tryz.f13 Rows.fnExactLossOfRow.domain false) (Rows.fnExactLossOfSpec.post enc Tryz.prog Tryz.f13 false true false false) := by
  refine returnsInHanded_of_change (C := Tryz.checked) own started (by kernel_rfl) Tryz.func13
    (ChangeSpec.witness6 (enc := enc) (C := Tryz.checked) false ⟨#[], #[.agg #[.slice none 0 0, .int .i64 0, .int .i64 0, .int .i64 0, .int .i64 0, .int .i64 0, .slice none 0 0, .slice none 0 0], .int .i64 0], []⟩ 8 (by kernel_rfl) (by kernel_rfl) (by kernel_rfl) (by kernel_rfl)) ?_
  intro W base args ds gs before hval0 hW hcnd _
  have hval : ∀ (j : Nat) t v, Tryz.f13.params[j]? = some t → args[j]? = some v → Value.okWide Tryz.prog W .any base t v := hval0
  have hW' := hW
  obtain ⟨p, q, hA0, hV, rfl, hfz, hnd⟩ := hW
  have hA : DataW.TrodAll enc Tryz.prog W 0 (fun _ => true) true Tryz.f13.params.toList args.toList ds p := hA0
  rw [Tryz.params13] at hA hval
  obtain ⟨v0, vs0, d0, ds0, p0, q0, hargs0, rfl, rfl, h0, r0⟩ := trodAll_cons hA
  obtain ⟨v1, vs1, d1, ds1, p1, q1, hargs1, rfl, rfl, h1, r1⟩ := trodAll_cons r0
  obtain ⟨rfl, rfl, rfl⟩ := trodAll_nil r1
  obtain rfl : args = #[v0, v1] := by cases args; simp_all
  obtain ⟨rfl, rfl⟩ := trodVars_none hV
  have k0 := h0
  have lt0 : ∀ x ∈ p0, x.block < W.heap.size := by obtain ⟨m, hm⟩ := k0; exact DataW.trod_lt m _ _ _ hm
  have k1 := h1
  have lt1 : ∀ x ∈ p1, x.block < W.heap.size := by obtain ⟨m, hm⟩ := k1; exact DataW.trod_lt m _ _ _ hm
  have hv0 := hval 0 27 v0 rfl rfl
  have hv1 := hval 1 3 v1 rfl rfl
  obtain ⟨r0, A01, A02, A03, c01, c02, c03, rfl, RR0, hlen0⟩ := open_room hv0 h0
  obtain ⟨n1, rfl, _, _, wf1⟩ := open_int Tryz.underlying3 hv1 h1
  have bd1 := wf_bd wf1
  clear hA0 hval0
  refine (law53_any W RR0 hlen0 bd1).mono fun e W' ⟨he, bel⟩ => ?_
  subst he
  exact ⟨_, rfl, _, _, _, [], _, [], hW', trodAll_mk1 (shut_bool Tryz.underlying4 _), (trodAll_cons_mk (Below.trod laidOut (by kernel_rfl) (of_decide_eq_true (by kernel_rfl)) k0 bel lt0) (trodAll_cons_mk (Below.trod laidOut (by kernel_rfl) (of_decide_eq_true (by kernel_rfl)) k1 bel lt1) trodAll_mk0)), rfl, bel.frame _, fun h => by cases h⟩

theorem FnExactLossOf_holds : Rows.FnExactLossOfSaid :=
  OpenClaim.holds_of_wide 13 Tryz.f13 rfl rfl rfl rfl rfl rfl rfl ⟨rfl, rfl, rfl, rfl, rfl⟩ rfl rfl rfl rfl rfl (by kernel_rfl) Tryz.func13 (by kernel_rfl)
    (of_decide_eq_true (by kernel_rfl)) (by unfold Func.isWrapper; first | (rw [if_pos (by decide +kernel)]; kernel_rfl) | (rw [if_neg (by decide +kernel)]; exact ⟨rfl, rfl⟩))
    (fun os started H enc _ => FnExactLossOf_lifted os started H enc)
#print axioms FnExactLossOf_holds

end Go.Proofs.YtgdleimdenbnlaaGreat
