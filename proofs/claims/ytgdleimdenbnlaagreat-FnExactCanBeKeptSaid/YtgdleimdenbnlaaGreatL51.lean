/- FnExactCanBeKept returns true for every argument, and leaves it as it was. No condition. -/
import Derived.Test.YtgdleimdenbnlaaGreatQi2
set_option linter.unusedVariables false
set_option linter.unusedSimpArgs false
set_option linter.unusedSectionVars false
namespace Go.Proofs.YtgdleimdenbnlaaGreat
open Go.ChangeShapes Go.WideShapes Go.ChangeAt Go.RowKit Go.Joins

set_option maxRecDepth 100000 in
set_option maxHeartbeats 8000000 in
theorem law51_any {rr : RoomV} {Arr1 Arr2 Arr3 : Option Addr} {crr1 crr2 crr3 : Nat} {x1 y1 e1 : Int} (w : World) (Rrr : RLM w rr Arr1 Arr2 Arr3) (hlrr : rr.InL) (hx1 : -9223372036854775808 ≤ x1 ∧ x1 ≤ 9223372036854775807) (hy1 : -9223372036854775808 ≤ y1 ∧ y1 ≤ 9223372036854775807) (he1 : -9223372036854775808 ≤ e1 ∧ e1 ≤ 9223372036854775807) :
    Calls Tryz.prog 11 #[.agg #[.slice Arr1 rr.m.length crr1, .int .i64 rr.q, .int .i64 rr.bx, .int .i64 rr.by_, .int .i64 rr.lo, .int .i64 rr.hi, .slice Arr2 rr.ns.length crr2, .slice Arr3 rr.ls.length crr3], .agg #[.int .i64 x1, .int .i64 y1, .int .i64 e1]] w fun e w' => e = .returned (.bool true) ∧ Below w.heap.size w w' := by
  obtain ⟨zrr, hzrr⟩ : ∃ z, szRm rr (1048576 : Int) = z := ⟨_, rfl⟩
  have HZrr := Lib.hid hzrr
  by_cases hcrr : zrr < 0
  · clear hzrr
    go_enter Tryz.func11, Tryz.ntmps11
    go_wp2_with (first | (go_at_call 14; (first | (with_reducible refine (calls_ov2 (szRoom_eq HZrr hlrr ⟨by omega, by omega⟩)).mono ?_) | refine (calls_ov (szRoom_eq HZrr hlrr ⟨by omega, by omega⟩)).mono ?_); rintro e w' ⟨rfl, x, rfl⟩))
    go_ret
    exact ⟨rfl, (by repeat (first | exact bR | refine bO ?_ | refine bA ?_ | refine bS ?_ | refine bD ?_ | refine bN ?_))⟩
  have hmrr := szRm_bd hzrr (by omega) (by omega)
  have hmmrr := hmrr.1
  have hmnrr := hmrr.2.1
  have hmlrr := hmrr.2.2.1
  have hzbrr := hmrr.2.2.2
  have hsrr : rr.Short := ⟨hmmrr, hmnrr, hmlrr⟩
  clear hmrr
  obtain ⟨ok, hr⟩ : ∃ r, canR rr x1 y1 e1 = r := ⟨_, rfl⟩
  have HR := Lib.hid hr
  have ORrr0 := owned_room (T := 37) (by decide) (by decide) rr
  have ORrr1 := owned_room (T := 39) (by decide) (by decide) rr
  clear hr hzrr
  have hne : (ok != ok) = false := by simp
  go_enter Tryz.func11, Tryz.ntmps11
  go_wp2_with (first | (go_at_call 14; (first | (with_reducible refine (calls_ov2 (szRoom_eq HZrr hlrr ⟨by omega, by omega⟩)).mono ?_) | refine (calls_ov (szRoom_eq HZrr hlrr ⟨by omega, by omega⟩)).mono ?_); rintro e w' ⟨rfl, x, rfl⟩))
  obtain ⟨V, hV⟩ : ∃ V, ((w.alloc (.cells #[.slice Arr1 rr.m.length crr1, .int .i64 rr.q, .int .i64 rr.bx, .int .i64 rr.by_, .int .i64 rr.lo, .int .i64 rr.hi, .slice Arr2 rr.ns.length crr2, .slice Arr3 rr.ls.length crr3] 27)).alloc (.cells #[.int .i64 x1, .int .i64 y1, .int .i64 e1] 29)) = V := ⟨_, rfl⟩
  have TV : Below w.heap.size w V := by rw [← hV]; exact (by repeat (first | exact bR | refine bO ?_ | refine bA ?_ | refine bS ?_ | refine bD ?_ | refine bN ?_))
  have X0 : V.heap[w.heap.size]? = some (.cells #[.slice Arr1 rr.m.length crr1, .int .i64 rr.q, .int .i64 rr.bx, .int .i64 rr.by_, .int .i64 rr.lo, .int .i64 rr.hi, .slice Arr2 rr.ns.length crr2, .slice Arr3 rr.ls.length crr3] 27 (0, 0)) := by rw [← hV]; exact ((heap_old_at (by first | (simp; done) | (simp <;> omega))).trans (heap_new_at (by simp) rfl))
  have X1 : V.heap[w.heap.size + 1]? = some (.cells #[.int .i64 x1, .int .i64 y1, .int .i64 e1] 29 (0, 0)) := by rw [← hV]; exact (heap_new_at (by simp) rfl)
  rw [hV]
  clear hV
  generalize w.heap.size + 1 = ba1 at X1 ⊢
  obtain ⟨W0, hW⟩ : ∃ W0, W0 = ov V x := ⟨_, rfl⟩
  rw [← hW]
  have T : Below V.heap.size V W0 := by rw [hW]; exact (by repeat (first | exact bR | refine bO ?_ | refine bA ?_ | refine bS ?_ | refine bD ?_ | refine bN ?_))
  clear hW
  have Brr := box_below (Lib.hid X0) T
  clear X0
  have Bx1 := box_below (Lib.hid X1) T
  clear X1
  have s0 : w.heap.size ≤ V.heap.size := TV.size
  have Srr := Rrr.below (TV.trans (T.mono s0))
  obtain ⟨Brrc0, Brrc1, Brrc2, Brrc3, Brrc4, Brrc5, Brrc6, Brrc7, Brrl⟩ := cb8 Brr
  obtain ⟨Bx1c0, Bx1c1, Bx1c2, Bx1l⟩ := cb3 Bx1
  refine wp_region_rel [.pur [] ?d1c0, .rel [] [1] false (IsOw (GRoom rr)), .pur [] ?d1c2, .pur [] ?d1c3, .pur [1] ?d1c4, .pur [] ?d1c5] _ rfl rfl (by kernel_rfl) (by kernel_rfl) ?hstd1 (fun vs => ?walkd1)
  case' walkd1 =>
    (refine wpRel_pur rfl rfl (fun x => by ((go_wp2); refine relEnd_pur rfl ?_ (by repeat (first | exact bR | refine bO ?_ | refine bA ?_ | refine bS ?_ | refine bD ?_ | refine bN ?_)); simp only [Act.put, List.setIfInBounds_toArray, List.set_cons_succ, List.set_cons_zero]; rfl)) ?_; simp only [Act.put, List.setIfInBounds_toArray, List.set_cons_succ, List.set_cons_zero])
    refine wpRel_own rfl rfl rfl (fun x hh => ?_) ?_
    · go_wp2_with fail
      refine (toRoom_any rr (Srr.below (by repeat (first | exact bR | refine bO ?_ | refine bA ?_ | refine bS ?_ | refine bD ?_ | refine bN ?_))) hsrr).mono ?_
      rintro e w7 ⟨a71, d71, a72, d72, a73, d73, rfl, Q7, hb7⟩
      go_wp2
      refine relEnd_ow rfl rfl ?_ hb7 ⟨a71, d71, a72, d72, a73, d73, rfl, Q7.weak (by rw [ov_size]; omega)⟩
      (simp only [Act.put, List.setIfInBounds_toArray, List.set_cons_succ, List.set_cons_zero] <;> rfl)
    simp only [Act.put, List.setIfInBounds_toArray, List.set_cons_succ, List.set_cons_zero]
    (refine wpRel_pur rfl rfl (fun x => by ((go_wp2); refine relEnd_pur rfl ?_ (by repeat (first | exact bR | refine bO ?_ | refine bA ?_ | refine bS ?_ | refine bD ?_ | refine bN ?_)); simp only [Act.put, List.setIfInBounds_toArray, List.set_cons_succ, List.set_cons_zero]; rfl)) ?_; simp only [Act.put, List.setIfInBounds_toArray, List.set_cons_succ, List.set_cons_zero])
    (refine wpRel_pur rfl rfl (fun x => by ((go_wp2_with (first | (go_at_call 18; refine (calls_ov (toSpot_any _ _ _ _)).mono ?_; rintro e w' ⟨rfl, x, rfl⟩))); refine relEnd_pur rfl ?_ (by repeat (first | exact bR | refine bO ?_ | refine bA ?_ | refine bS ?_ | refine bD ?_ | refine bN ?_)); simp only [Act.put, List.setIfInBounds_toArray, List.set_cons_succ, List.set_cons_zero]; rfl)) ?_; simp only [Act.put, List.setIfInBounds_toArray, List.set_cons_succ, List.set_cons_zero])
    (refine wpRel_purn rfl rfl (fun x hh => by ((obtain ⟨ao11, do11, ao12, do12, ao13, do13, f1, Qo1⟩ := isOw_at (hh 1 (by simp)) rfl; simp only [f1]); (go_wp2_with (first | (go_at_call 42; refine (calls_ov (spec_CanBeKept_eq Qo1.rm hsrr ⟨hx1, hy1, he1⟩ HR)).mono ?_; rintro e w' ⟨rfl, x, rfl⟩))); refine relEnd_pur rfl ?_ (by repeat (first | exact bR | refine bO ?_ | refine bA ?_ | refine bS ?_ | refine bD ?_ | refine bN ?_)); simp only [Act.put, List.setIfInBounds_toArray, List.set_cons_succ, List.set_cons_zero]; rfl)) ?_; simp only [Act.put, List.setIfInBounds_toArray, List.set_cons_succ, List.set_cons_zero])
    (refine wpRel_pur rfl rfl (fun x => by ((go_wp2); refine relEnd_pur rfl ?_ (by repeat (first | exact bR | refine bO ?_ | refine bA ?_ | refine bS ?_ | refine bD ?_ | refine bN ?_)); simp only [Act.put, List.setIfInBounds_toArray, List.set_cons_succ, List.set_cons_zero]; rfl)) ?_; simp only [Act.put, List.setIfInBounds_toArray, List.set_cons_succ, List.set_cons_zero])
    refine wpRelE_nilB0 (fun W1 K hh => ?_)
    clear hh
    clear Brrc0 Brrc1 Brrc2 Brrc3 Brrc4 Brrc5 Brrc6 Brrc7 Bx1c0 Bx1c1 Bx1c2 Brrl Bx1l
    replace T := T.trans (K.mono T.size)
    replace Brr := box_below Brr K
    replace Bx1 := box_below Bx1 K
    clear K Srr
    have Srr := Rrr.below (TV.trans (T.mono s0))
    obtain ⟨Brrc0, Brrc1, Brrc2, Brrc3, Brrc4, Brrc5, Brrc6, Brrc7, Brrl⟩ := cb8 Brr
    obtain ⟨Bx1c0, Bx1c1, Bx1c2, Bx1l⟩ := cb3 Bx1
    go_wp2_with fail
    clear Brrc0 Brrc1 Brrc2 Brrc3 Brrc4 Brrc5 Brrc6 Brrc7 Bx1c0 Bx1c1 Bx1c2 Brrl Bx1l
    refine (toRoom_any rr (Srr.below (by repeat (first | exact bR | refine bO ?_ | refine bA ?_ | refine bS ?_ | refine bD ?_ | refine bN ?_))) hsrr).mono ?_
    rintro e W2 ⟨axrr1, dxrr1, axrr2, dxrr2, axrr3, dxrr3, rfl, Xxrr, hb⟩
    have K : Below W1.heap.size W1 W2 := Below.trans (by repeat (first | exact bR | refine bO ?_ | refine bA ?_ | refine bS ?_ | refine bD ?_ | refine bN ?_)) (hb.mono (by first | exact Nat.le_refl _ | simp [ov_size]))
    replace Xxrr := Xxrr.weak (B' := V.heap.size) (by have := T.size; simp [ov_size]; omega)
    clear hb
    replace T := T.trans (K.mono T.size)
    replace Brr := box_below Brr K
    replace Bx1 := box_below Bx1 K
    clear K Srr
    have Srr := Rrr.below (TV.trans (T.mono s0))
    obtain ⟨Brrc0, Brrc1, Brrc2, Brrc3, Brrc4, Brrc5, Brrc6, Brrc7, Brrl⟩ := cb8 Brr
    obtain ⟨Bx1c0, Bx1c1, Bx1c2, Bx1l⟩ := cb3 Bx1
    go_wp2_with fail
    clear Brrc0 Brrc1 Brrc2 Brrc3 Brrc4 Brrc5 Brrc6 Brrc7 Bx1c0 Bx1c1 Bx1c2 Brrl Bx1l
    obtain ⟨bxrr, hbx⟩ : ∃ b, b = W2.heap.size := ⟨_, rfl⟩
    rw [← hbx]
    obtain ⟨W3, hW⟩ : ∃ W, W = W2.alloc (.cells #[.slice (some ⟨axrr1, 0, none⟩) rr.m.length dxrr1, .int .i64 rr.q, .int .i64 rr.bx, .int .i64 rr.by_, .int .i64 rr.lo, .int .i64 rr.hi, .slice axrr2 rr.ns.length dxrr2, .slice axrr3 rr.ls.length dxrr3] 39) := ⟨_, rfl⟩
    rw [← hW]
    have K : Below W2.heap.size W2 W3 := by rw [hW]; exact (by repeat (first | exact bR | refine bO ?_ | refine bA ?_ | refine bS ?_ | refine bD ?_ | refine bN ?_))
    have Bxrr := Lib.hid (show W3.heap[bxrr]? = some (.cells #[.slice (some ⟨axrr1, 0, none⟩) rr.m.length dxrr1, .int .i64 rr.q, .int .i64 rr.bx, .int .i64 rr.by_, .int .i64 rr.lo, .int .i64 rr.hi, .slice axrr2 rr.ns.length dxrr2, .slice axrr3 rr.ls.length dxrr3] 39 (0, 0)) by rw [hW, hbx]; exact heap_alloc_new _ _)
    clear hW hbx
    replace T := T.trans (K.mono T.size)
    replace Brr := box_below Brr K
    replace Bx1 := box_below Bx1 K
    replace Xxrr := Xxrr.below K
    clear K Srr
    have Srr := Rrr.below (TV.trans (T.mono s0))
    obtain ⟨Brrc0, Brrc1, Brrc2, Brrc3, Brrc4, Brrc5, Brrc6, Brrc7, Brrl⟩ := cb8 Brr
    obtain ⟨Bx1c0, Bx1c1, Bx1c2, Bx1l⟩ := cb3 Bx1
    obtain ⟨Bxrrc0, Bxrrc1, Bxrrc2, Bxrrc3, Bxrrc4, Bxrrc5, Bxrrc6, Bxrrc7, Bxrrl⟩ := cb8 Bxrr
    refine wp_region_rel [.pur [] ?d2c0, .pur [] ?d2c1, .pur [] ?d2c2, .pur [] ?d2c3, .pur [] ?d2c4] _ rfl rfl (by kernel_rfl) (by kernel_rfl) ?hstd2 (fun vs => ?walkd2)
    case' walkd2 =>
      (refine wpRel_pur rfl rfl (fun x => by ((go_wp2); refine relEnd_pur rfl ?_ (by repeat (first | exact bR | refine bO ?_ | refine bA ?_ | refine bS ?_ | refine bD ?_ | refine bN ?_)); simp only [Act.put, List.setIfInBounds_toArray, List.set_cons_succ, List.set_cons_zero]; rfl)) ?_; simp only [Act.put, List.setIfInBounds_toArray, List.set_cons_succ, List.set_cons_zero])
      (refine wpRel_pur rfl rfl (fun x => by ((go_wp2); refine relEnd_pur rfl ?_ (by repeat (first | exact bR | refine bO ?_ | refine bA ?_ | refine bS ?_ | refine bD ?_ | refine bN ?_)); simp only [Act.put, List.setIfInBounds_toArray, List.set_cons_succ, List.set_cons_zero]; rfl)) ?_; simp only [Act.put, List.setIfInBounds_toArray, List.set_cons_succ, List.set_cons_zero])
      (refine wpRel_pur rfl rfl (fun x => by ((go_wp2_with (first | (go_at_call 18; refine (calls_ov (toSpot_any _ _ _ _)).mono ?_; rintro e w' ⟨rfl, x, rfl⟩))); refine relEnd_pur rfl ?_ (by repeat (first | exact bR | refine bO ?_ | refine bA ?_ | refine bS ?_ | refine bD ?_ | refine bN ?_)); simp only [Act.put, List.setIfInBounds_toArray, List.set_cons_succ, List.set_cons_zero]; rfl)) ?_; simp only [Act.put, List.setIfInBounds_toArray, List.set_cons_succ, List.set_cons_zero])
      (refine wpRel_pur rfl rfl (fun x => by ((go_wp2_with (first | (go_at_call 43; refine (calls_ov (impl_CanBeKept_eq ((Xxrr.below (by repeat (first | exact bR | refine bO ?_ | refine bA ?_ | refine bS ?_ | refine bD ?_ | refine bN ?_))).rm) hsrr ⟨hx1, hy1, he1⟩ HR)).mono ?_; rintro e w' ⟨rfl, x, rfl⟩))); refine relEnd_pur rfl ?_ (by repeat (first | exact bR | refine bO ?_ | refine bA ?_ | refine bS ?_ | refine bD ?_ | refine bN ?_)); simp only [Act.put, List.setIfInBounds_toArray, List.set_cons_succ, List.set_cons_zero]; rfl)) ?_; simp only [Act.put, List.setIfInBounds_toArray, List.set_cons_succ, List.set_cons_zero])
      (refine wpRel_pur rfl rfl (fun x => by ((go_wp2); refine relEnd_pur rfl ?_ (by repeat (first | exact bR | refine bO ?_ | refine bA ?_ | refine bS ?_ | refine bD ?_ | refine bN ?_)); simp only [Act.put, List.setIfInBounds_toArray, List.set_cons_succ, List.set_cons_zero]; rfl)) ?_; simp only [Act.put, List.setIfInBounds_toArray, List.set_cons_succ, List.set_cons_zero])
      refine wpRelE_nilB0 (fun W4 K hh => ?_)
      clear hh
      clear Brrc0 Brrc1 Brrc2 Brrc3 Brrc4 Brrc5 Brrc6 Brrc7 Bx1c0 Bx1c1 Bx1c2 Bxrrc0 Bxrrc1 Bxrrc2 Bxrrc3 Bxrrc4 Bxrrc5 Bxrrc6 Bxrrc7 Brrl Bx1l Bxrrl
      replace T := T.trans (K.mono T.size)
      replace Brr := box_below Brr K
      replace Bx1 := box_below Bx1 K
      replace Bxrr := box_below Bxrr K
      replace Xxrr := Xxrr.below K
      clear K Srr
      have Srr := Rrr.below (TV.trans (T.mono s0))
      obtain ⟨Brrc0, Brrc1, Brrc2, Brrc3, Brrc4, Brrc5, Brrc6, Brrc7, Brrl⟩ := cb8 Brr
      obtain ⟨Bx1c0, Bx1c1, Bx1c2, Bx1l⟩ := cb3 Bx1
      obtain ⟨Bxrrc0, Bxrrc1, Bxrrc2, Bxrrc3, Bxrrc4, Bxrrc5, Bxrrc6, Bxrrc7, Bxrrl⟩ := cb8 Bxrr
      go_wp2_with fail
      clear Brrc0 Brrc1 Brrc2 Brrc3 Brrc4 Brrc5 Brrc6 Brrc7 Bx1c0 Bx1c1 Bx1c2 Bxrrc0 Bxrrc1 Bxrrc2 Bxrrc3 Bxrrc4 Bxrrc5 Bxrrc6 Bxrrc7 Brrl Bx1l Bxrrl
      obtain ⟨Brrc0, Brrc1, Brrc2, Brrc3, Brrc4, Brrc5, Brrc6, Brrc7, Brrl⟩ := cb8 Brr
      obtain ⟨Bx1c0, Bx1c1, Bx1c2, Bx1l⟩ := cb3 Bx1
      obtain ⟨Bxrrc0, Bxrrc1, Bxrrc2, Bxrrc3, Bxrrc4, Bxrrc5, Bxrrc6, Bxrrc7, Bxrrl⟩ := cb8 Bxrr
      refine wp_region_rel [.pur [] ?d3c0, .pur [] ?d3c1, .rel [] [2] false (IsOw (GRoom rr)), .pur [2] ?d3c3, .pur [] ?d3c4] _ rfl rfl (by kernel_rfl) (by kernel_rfl) ?hstd3 (fun vs => ?walkd3)
      case' walkd3 =>
        (refine wpRel_pur rfl rfl (fun x => by ((go_wp2); refine relEnd_pur rfl ?_ (by repeat (first | exact bR | refine bO ?_ | refine bA ?_ | refine bS ?_ | refine bD ?_ | refine bN ?_)); simp only [Act.put, List.setIfInBounds_toArray, List.set_cons_succ, List.set_cons_zero]; rfl)) ?_; simp only [Act.put, List.setIfInBounds_toArray, List.set_cons_succ, List.set_cons_zero])
        (refine wpRel_pur rfl rfl (fun x => by ((go_wp2); refine relEnd_pur rfl ?_ (by repeat (first | exact bR | refine bO ?_ | refine bA ?_ | refine bS ?_ | refine bD ?_ | refine bN ?_)); simp only [Act.put, List.setIfInBounds_toArray, List.set_cons_succ, List.set_cons_zero]; rfl)) ?_; simp only [Act.put, List.setIfInBounds_toArray, List.set_cons_succ, List.set_cons_zero])
        refine wpRel_own rfl rfl rfl (fun x hh => ?_) ?_
        · go_wp2_with fail
          refine (toRoom_any rr (Srr.below (by repeat (first | exact bR | refine bO ?_ | refine bA ?_ | refine bS ?_ | refine bD ?_ | refine bN ?_))) hsrr).mono ?_
          rintro e w7 ⟨a71, d71, a72, d72, a73, d73, rfl, Q7, hb7⟩
          go_wp2
          refine relEnd_ow rfl rfl ?_ hb7 ⟨a71, d71, a72, d72, a73, d73, rfl, Q7.weak (by rw [ov_size]; omega)⟩
          (simp only [Act.put, List.setIfInBounds_toArray, List.set_cons_succ, List.set_cons_zero] <;> rfl)
        simp only [Act.put, List.setIfInBounds_toArray, List.set_cons_succ, List.set_cons_zero]
        (refine wpRel_purn rfl rfl (fun x hh => by ((obtain ⟨ao21, do21, ao22, do22, ao23, do23, f2, Qo2⟩ := isOw_at (hh 2 (by simp)) rfl; simp only [f2]); (go_wp2_with (first | (go_at_call 22; refine (calls_ov (eqRoom_same (by exact (Xxrr.below (by repeat (first | exact bR | refine bO ?_ | refine bA ?_ | refine bS ?_ | refine bD ?_ | refine bN ?_))).rm) (by first | exact (Qo2.below (by repeat (first | exact bR | refine bO ?_ | refine bA ?_ | refine bS ?_ | refine bD ?_ | refine bN ?_))).rm | exact Qo2.rm) hsrr)).mono ?_; rintro e w' ⟨rfl, x, rfl⟩))); refine relEnd_pur rfl ?_ (by repeat (first | exact bR | refine bO ?_ | refine bA ?_ | refine bS ?_ | refine bD ?_ | refine bN ?_)); simp only [Act.put, List.setIfInBounds_toArray, List.set_cons_succ, List.set_cons_zero]; rfl)) ?_; simp only [Act.put, List.setIfInBounds_toArray, List.set_cons_succ, List.set_cons_zero])
        (refine wpRel_pur rfl rfl (fun x => by ((go_wp2); refine relEnd_pur rfl ?_ (by repeat (first | exact bR | refine bO ?_ | refine bA ?_ | refine bS ?_ | refine bD ?_ | refine bN ?_)); simp only [Act.put, List.setIfInBounds_toArray, List.set_cons_succ, List.set_cons_zero]; rfl)) ?_; simp only [Act.put, List.setIfInBounds_toArray, List.set_cons_succ, List.set_cons_zero])
        refine wpRelE_nilB0 (fun W5 K hh => ?_)
        clear hh
        clear Brrc0 Brrc1 Brrc2 Brrc3 Brrc4 Brrc5 Brrc6 Brrc7 Bx1c0 Bx1c1 Bx1c2 Bxrrc0 Bxrrc1 Bxrrc2 Bxrrc3 Bxrrc4 Bxrrc5 Bxrrc6 Bxrrc7 Brrl Bx1l Bxrrl
        replace T := T.trans (K.mono T.size)
        replace Brr := box_below Brr K
        replace Bx1 := box_below Bx1 K
        replace Bxrr := box_below Bxrr K
        replace Xxrr := Xxrr.below K
        clear K Srr
        have Srr := Rrr.below (TV.trans (T.mono s0))
        obtain ⟨Brrc0, Brrc1, Brrc2, Brrc3, Brrc4, Brrc5, Brrc6, Brrc7, Brrl⟩ := cb8 Brr
        obtain ⟨Bx1c0, Bx1c1, Bx1c2, Bx1l⟩ := cb3 Bx1
        obtain ⟨Bxrrc0, Bxrrc1, Bxrrc2, Bxrrc3, Bxrrc4, Bxrrc5, Bxrrc6, Bxrrc7, Bxrrl⟩ := cb8 Bxrr
        go_wp2
        go_ret
        exact ⟨rfl, (by repeat (first | exact TV.trans (T.mono s0) | refine bO ?_ | refine bA ?_ | refine bS ?_ | refine bD ?_ | refine bN ?_))⟩
      case' hstd3 => exact (by repeat (first | exact all_nil | refine all_cons trivial ?_ | refine all_cons isAl_stable ?_ | refine all_cons isSt_stable ?_ | refine all_cons isStB_stable ?_ | refine all_cons (isOw_stable (by assumption)) ?_))
    case' hstd2 => exact (by repeat (first | exact all_nil | refine all_cons trivial ?_ | refine all_cons isAl_stable ?_ | refine all_cons isSt_stable ?_ | refine all_cons isStB_stable ?_ | refine all_cons (isOw_stable (by assumption)) ?_))
  case' hstd1 => exact (by repeat (first | exact all_nil | refine all_cons trivial ?_ | refine all_cons isAl_stable ?_ | refine all_cons isSt_stable ?_ | refine all_cons isStB_stable ?_ | refine all_cons (isOw_stable (by assumption)) ?_))
set_option maxRecDepth 100000 in
theorem FnExactCanBeKept_lifted (os : Os) (started : os.Started) (H : Type) (enc : TypeId × Value → H) :
    ReturnsInHanded {} Tryz.checked os 11 .any (Rows.fnExactCanBeKeptSpec.pre6 enc Tryz.prog Tryz.f11 Rows.fnExactCanBeKeptRow.domain false) (Rows.fnExactCanBeKeptSpec.post enc Tryz.prog Tryz.f11 false true false false) := by
  refine returnsInHanded_of_change (C := Tryz.checked) own started (by kernel_rfl) Tryz.func11
    (ChangeSpec.witness6 (enc := enc) (C := Tryz.checked) false ⟨#[], #[.agg #[.slice none 0 0, .int .i64 0, .int .i64 0, .int .i64 0, .int .i64 0, .int .i64 0, .slice none 0 0, .slice none 0 0], .agg #[.int .i64 0, .int .i64 0, .int .i64 0]], []⟩ 8 (by kernel_rfl) (by kernel_rfl) (by kernel_rfl) (by kernel_rfl)) ?_
  intro W base args ds gs before hval0 hW hcnd _
  have hval : ∀ (j : Nat) t v, Tryz.f11.params[j]? = some t → args[j]? = some v → Value.okWide Tryz.prog W .any base t v := hval0
  have hW' := hW
  obtain ⟨p, q, hA0, hV, rfl, hfz, hnd⟩ := hW
  have hA : DataW.TrodAll enc Tryz.prog W 0 (fun _ => true) true Tryz.f11.params.toList args.toList ds p := hA0
  rw [Tryz.params11] at hA hval
  obtain ⟨v0, vs0, d0, ds0, p0, q0, hargs0, rfl, rfl, h0, r0⟩ := trodAll_cons hA
  obtain ⟨v1, vs1, d1, ds1, p1, q1, hargs1, rfl, rfl, h1, r1⟩ := trodAll_cons r0
  obtain ⟨rfl, rfl, rfl⟩ := trodAll_nil r1
  obtain rfl : args = #[v0, v1] := by cases args; simp_all
  obtain ⟨rfl, rfl⟩ := trodVars_none hV
  have k0 := h0
  have lt0 : ∀ x ∈ p0, x.block < W.heap.size := by obtain ⟨m, hm⟩ := k0; exact DataW.trod_lt m _ _ _ hm
  have k1 := h1
  have lt1 : ∀ x ∈ p1, x.block < W.heap.size := by obtain ⟨m, hm⟩ := k1; exact DataW.trod_lt m _ _ _ hm
  have hv0 := hval 0 27 v0 rfl rfl
  have hv1 := hval 1 29 v1 rfl rfl
  obtain ⟨r0, A01, A02, A03, c01, c02, c03, rfl, RR0, hlen0⟩ := open_room hv0 h0
  obtain ⟨x1, y1, d1, rfl, bx1, bY1, bd1⟩ := open_spot hv1 h1
  clear hA0 hval0
  refine (law51_any W RR0 hlen0 bx1 bY1 bd1).mono fun e W' ⟨he, bel⟩ => ?_
  subst he
  exact ⟨_, rfl, _, _, _, [], _, [], hW', trodAll_mk1 (shut_bool Tryz.underlying4 _), (trodAll_cons_mk (Below.trod laidOut (by kernel_rfl) (of_decide_eq_true (by kernel_rfl)) k0 bel lt0) (trodAll_cons_mk (Below.trod laidOut (by kernel_rfl) (of_decide_eq_true (by kernel_rfl)) k1 bel lt1) trodAll_mk0)), rfl, bel.frame _, fun h => by cases h⟩

theorem FnExactCanBeKept_holds : Rows.FnExactCanBeKeptSaid :=
  OpenClaim.holds_of_wide 11 Tryz.f11 rfl rfl rfl rfl rfl rfl rfl ⟨rfl, rfl, rfl, rfl, rfl⟩ rfl rfl rfl rfl rfl (by kernel_rfl) Tryz.func11 (by kernel_rfl)
    (of_decide_eq_true (by kernel_rfl)) (by unfold Func.isWrapper; first | (rw [if_pos (by decide +kernel)]; kernel_rfl) | (rw [if_neg (by decide +kernel)]; exact ⟨rfl, rfl⟩))
    (fun os started H enc _ => FnExactCanBeKept_lifted os started H enc)
#print axioms FnExactCanBeKept_holds

end Go.Proofs.YtgdleimdenbnlaaGreat
