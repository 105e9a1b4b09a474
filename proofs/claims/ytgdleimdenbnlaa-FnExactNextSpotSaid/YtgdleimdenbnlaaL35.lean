/- FnExactNextSpot returns true for every argument, and leaves it as it was. No condition. -/
import Derived.Test.YtgdleimdenbnlaaKr
set_option linter.unusedVariables false
set_option linter.unusedSimpArgs false
set_option linter.unusedSectionVars false
namespace Go.Proofs.Ytgdleimdenbnlaa
open Go.ChangeShapes Go.WideShapes Go.ChangeAt Go.RowKit Go.Joins

set_option maxRecDepth 100000 in
set_option maxHeartbeats 8000000 in
theorem law35_any {rr : RoomV} {Arr1 Arr2 Arr3 : Option Addr} {crr1 crr2 crr3 : Nat} {x1 y1 e1 : Int} {n1 d1 : Int} {x2 y2 e2 : Int} (w : World) (Rrr : RLM w rr Arr1 Arr2 Arr3) (hlrr : rr.InL) (hx1 : -9223372036854775808 ≤ x1 ∧ x1 ≤ 9223372036854775807) (hy1 : -9223372036854775808 ≤ y1 ∧ y1 ≤ 9223372036854775807) (he1 : -9223372036854775808 ≤ e1 ∧ e1 ≤ 9223372036854775807) (hn1 : -9223372036854775808 ≤ n1 ∧ n1 ≤ 9223372036854775807) (hd1 : -9223372036854775808 ≤ d1 ∧ d1 ≤ 9223372036854775807) (hx2 : -9223372036854775808 ≤ x2 ∧ x2 ≤ 9223372036854775807) (hy2 : -9223372036854775808 ≤ y2 ∧ y2 ≤ 9223372036854775807) (he2 : -9223372036854775808 ≤ e2 ∧ e2 ≤ 9223372036854775807) :
    Calls Try.prog 6 #[.agg #[.slice Arr1 rr.m.length crr1, .int .i64 rr.q, .int .i64 rr.bx, .int .i64 rr.by_, .int .i64 rr.lo, .int .i64 rr.hi, .slice Arr2 rr.ns.length crr2, .slice Arr3 rr.ls.length crr3], .agg #[.int .i64 x1, .int .i64 y1, .int .i64 e1], .agg #[.int .i64 n1, .int .i64 d1], .agg #[.int .i64 x2, .int .i64 y2, .int .i64 e2]] w fun e w' => e = .returned (.bool true) ∧ Below w.heap.size w w' := by
  obtain ⟨zrr, hzrr⟩ : ∃ z, szRm rr (1048576 : Int) = z := ⟨_, rfl⟩
  have HZrr := Lib.hid hzrr
  by_cases hcrr : zrr < 0
  · clear hzrr
    go_enter Try.func6, Try.ntmps6
    go_wp2_with (first | (go_at_call 13; (first | (with_reducible refine (calls_ov2 (szRoom_eq HZrr hlrr ⟨by omega, by omega⟩)).mono ?_) | refine (calls_ov (szRoom_eq HZrr hlrr ⟨by omega, by omega⟩)).mono ?_); rintro e w' ⟨rfl, x, rfl⟩))
    go_ret
    exact ⟨rfl, (by repeat (first | exact Below.refl _ _ | refine below_ov _ _ ?_ (by first | omega | (simp [ov_size] <;> omega)) | refine Below.alloc ?_ (by first | omega | (simp [ov_size] <;> omega)) _ | refine Below.setCell ?_ (by first | omega | (simp [ov_size] <;> omega)) _ | refine Below.drew ?_ | refine below_drewN ?_ _))⟩
  have hmrr := szRm_bd hzrr (by omega) (by omega)
  have hmmrr := hmrr.1
  have hmnrr := hmrr.2.1
  have hmlrr := hmrr.2.2.1
  have hzbrr := hmrr.2.2.2
  have hsrr : rr.Short := ⟨hmmrr, hmnrr, hmlrr⟩
  clear hmrr
  obtain ⟨⟨⟨r1, r2, r3⟩, ok⟩, hr⟩ : ∃ r, nextR rr x1 y1 e1 n1 d1 x2 y2 e2 = r := ⟨_, rfl⟩
  have HR := Lib.hid hr
  have ORrr0 := owned_room (T := 34) (by decide) (by decide) rr
  have ORrr1 := owned_room (T := 36) (by decide) (by decide) rr
  have ORrr2 := owned_room (T := 54) (by decide) (by decide) rr
  clear hr hzrr
  have hne : (ok != ok) = false := by simp
  go_enter Try.func6, Try.ntmps6
  go_wp2_with (first | (go_at_call 13; (first | (with_reducible refine (calls_ov2 (szRoom_eq HZrr hlrr ⟨by omega, by omega⟩)).mono ?_) | refine (calls_ov (szRoom_eq HZrr hlrr ⟨by omega, by omega⟩)).mono ?_); rintro e w' ⟨rfl, x, rfl⟩))
  obtain ⟨V, hV⟩ : ∃ V, ((((w.alloc (.cells #[.slice Arr1 rr.m.length crr1, .int .i64 rr.q, .int .i64 rr.bx, .int .i64 rr.by_, .int .i64 rr.lo, .int .i64 rr.hi, .slice Arr2 rr.ns.length crr2, .slice Arr3 rr.ls.length crr3] 27)).alloc (.cells #[.int .i64 x1, .int .i64 y1, .int .i64 e1] 53)).alloc (.cells #[.int .i64 n1, .int .i64 d1] 29)).alloc (.cells #[.int .i64 x2, .int .i64 y2, .int .i64 e2] 53)) = V := ⟨_, rfl⟩
  have TV : Below w.heap.size w V := by rw [← hV]; exact (by repeat (first | exact Below.refl _ _ | refine below_ov _ _ ?_ (by first | omega | (simp [ov_size] <;> omega)) | refine Below.alloc ?_ (by first | omega | (simp [ov_size] <;> omega)) _ | refine Below.setCell ?_ (by first | omega | (simp [ov_size] <;> omega)) _ | refine Below.drew ?_ | refine below_drewN ?_ _))
  have X0 : V.heap[w.heap.size]? = some (.cells #[.slice Arr1 rr.m.length crr1, .int .i64 rr.q, .int .i64 rr.bx, .int .i64 rr.by_, .int .i64 rr.lo, .int .i64 rr.hi, .slice Arr2 rr.ns.length crr2, .slice Arr3 rr.ls.length crr3] 27 (0, 0)) := by rw [← hV]; exact ((heap_old_at (by first | (simp; done) | (simp <;> omega))).trans ((heap_old_at (by first | (simp; done) | (simp <;> omega))).trans ((heap_old_at (by first | (simp; done) | (simp <;> omega))).trans (heap_new_at (by simp) rfl))))
  have X1 : V.heap[w.heap.size + 1]? = some (.cells #[.int .i64 x1, .int .i64 y1, .int .i64 e1] 53 (0, 0)) := by rw [← hV]; exact ((heap_old_at (by first | (simp; done) | (simp <;> omega))).trans ((heap_old_at (by first | (simp; done) | (simp <;> omega))).trans (heap_new_at (by simp) rfl)))
  have X2 : V.heap[w.heap.size + 1 + 1]? = some (.cells #[.int .i64 n1, .int .i64 d1] 29 (0, 0)) := by rw [← hV]; exact ((heap_old_at (by first | (simp; done) | (simp <;> omega))).trans (heap_new_at (by simp) rfl))
  have X3 : V.heap[w.heap.size + 1 + 1 + 1]? = some (.cells #[.int .i64 x2, .int .i64 y2, .int .i64 e2] 53 (0, 0)) := by rw [← hV]; exact (heap_new_at (by simp) rfl)
  rw [hV]
  clear hV
  generalize w.heap.size + 1 + 1 + 1 = ba3 at X3 ⊢
  generalize w.heap.size + 1 + 1 = ba2 at X2 ⊢
  generalize w.heap.size + 1 = ba1 at X1 ⊢
  obtain ⟨W0, hW⟩ : ∃ W0, W0 = ov V x := ⟨_, rfl⟩
  rw [← hW]
  have T : Below V.heap.size V W0 := by rw [hW]; exact (by repeat (first | exact Below.refl _ _ | refine below_ov _ _ ?_ (by first | omega | (simp [ov_size] <;> omega)) | refine Below.alloc ?_ (by first | omega | (simp [ov_size] <;> omega)) _ | refine Below.setCell ?_ (by first | omega | (simp [ov_size] <;> omega)) _ | refine Below.drew ?_ | refine below_drewN ?_ _))
  clear hW
  have Brr := box_below (Lib.hid X0) T
  clear X0
  have Bx1 := box_below (Lib.hid X1) T
  clear X1
  have Bn1 := box_below (Lib.hid X2) T
  clear X2
  have Bx2 := box_below (Lib.hid X3) T
  clear X3
  have s0 : w.heap.size ≤ V.heap.size := TV.size
  have Srr := Rrr.below (TV.trans (T.mono s0))
  have Brrc0 := cell_blk (j := 0) (v := .slice Arr1 rr.m.length crr1) Brr.out rfl
  have Brrc1 := cell_blk (j := 1) (v := .int .i64 rr.q) Brr.out rfl
  have Brrc2 := cell_blk (j := 2) (v := .int .i64 rr.bx) Brr.out rfl
  have Brrc3 := cell_blk (j := 3) (v := .int .i64 rr.by_) Brr.out rfl
  have Brrc4 := cell_blk (j := 4) (v := .int .i64 rr.lo) Brr.out rfl
  have Brrc5 := cell_blk (j := 5) (v := .int .i64 rr.hi) Brr.out rfl
  have Brrc6 := cell_blk (j := 6) (v := .slice Arr2 rr.ns.length crr2) Brr.out rfl
  have Brrc7 := cell_blk (j := 7) (v := .slice Arr3 rr.ls.length crr3) Brr.out rfl
  have Brrl := (Array.getElem?_eq_some_iff.1 Brr.out).1
  have Bx1c0 := cell_blk (j := 0) (v := .int .i64 x1) Bx1.out rfl
  have Bx1c1 := cell_blk (j := 1) (v := .int .i64 y1) Bx1.out rfl
  have Bx1c2 := cell_blk (j := 2) (v := .int .i64 e1) Bx1.out rfl
  have Bx1l := (Array.getElem?_eq_some_iff.1 Bx1.out).1
  have Bn1c0 := cell_blk (j := 0) (v := .int .i64 n1) Bn1.out rfl
  have Bn1c1 := cell_blk (j := 1) (v := .int .i64 d1) Bn1.out rfl
  have Bn1l := (Array.getElem?_eq_some_iff.1 Bn1.out).1
  have Bx2c0 := cell_blk (j := 0) (v := .int .i64 x2) Bx2.out rfl
  have Bx2c1 := cell_blk (j := 1) (v := .int .i64 y2) Bx2.out rfl
  have Bx2c2 := cell_blk (j := 2) (v := .int .i64 e2) Bx2.out rfl
  have Bx2l := (Array.getElem?_eq_some_iff.1 Bx2.out).1
  refine wp_region_rel [.pur [] ?d1c0, .rel [] [1] false (IsOw (GRoom rr)), .pur [] ?d1c2, .pur [] ?d1c3, .pur [] ?d1c4, .pur [] ?d1c5, .pur [] ?d1c6, .pur [] ?d1c7, .pur [1] ?d1c8, .pur [] ?d1c9, .pur [] ?d1c10, .pur [] ?d1c11, .rel [] [12] false (IsAl 54 3), .rel [12, 10] [12, 10] true (IsSt 54), .pur [] ?d1c14] _ rfl rfl (by kernel_rfl) (by kernel_rfl) ?hstd1 (fun vs => ?walkd1)
  case' walkd1 =>
    (refine wpRel_pur rfl rfl (fun x => by ((go_wp2); refine relEnd_pur rfl ?_ (by repeat (first | exact Below.refl _ _ | refine below_ov _ _ ?_ (by first | omega | (simp [ov_size] <;> omega)) | refine Below.alloc ?_ (by first | omega | (simp [ov_size] <;> omega)) _ | refine Below.setCell ?_ (by first | omega | (simp [ov_size] <;> omega)) _ | refine Below.drew ?_ | refine below_drewN ?_ _)); simp only [Act.put, List.setIfInBounds_toArray, List.set_cons_succ, List.set_cons_zero]; rfl)) ?_; simp only [Act.put, List.setIfInBounds_toArray, List.set_cons_succ, List.set_cons_zero])
    refine wpRel_own rfl rfl rfl (fun x hh => ?_) ?_
    · go_wp2_with fail
      refine (toRoom_any rr (Srr.below (by repeat (first | exact Below.refl _ _ | refine below_ov _ _ ?_ (by first | omega | (simp [ov_size] <;> omega)) | refine Below.alloc ?_ (by first | omega | (simp [ov_size] <;> omega)) _ | refine Below.setCell ?_ (by first | omega | (simp [ov_size] <;> omega)) _ | refine Below.drew ?_ | refine below_drewN ?_ _))) hsrr).mono ?_
      rintro e w7 ⟨a71, d71, a72, d72, a73, d73, rfl, Q7, hb7⟩
      go_wp2
      refine relEnd_ow rfl rfl ?_ hb7 ⟨a71, d71, a72, d72, a73, d73, rfl, Q7.weak (by rw [ov_size]; omega)⟩
      (simp only [Act.put, List.setIfInBounds_toArray, List.set_cons_succ, List.set_cons_zero] <;> rfl)
    simp only [Act.put, List.setIfInBounds_toArray, List.set_cons_succ, List.set_cons_zero]
    (refine wpRel_pur rfl rfl (fun x => by ((go_wp2); refine relEnd_pur rfl ?_ (by repeat (first | exact Below.refl _ _ | refine below_ov _ _ ?_ (by first | omega | (simp [ov_size] <;> omega)) | refine Below.alloc ?_ (by first | omega | (simp [ov_size] <;> omega)) _ | refine Below.setCell ?_ (by first | omega | (simp [ov_size] <;> omega)) _ | refine Below.drew ?_ | refine below_drewN ?_ _)); simp only [Act.put, List.setIfInBounds_toArray, List.set_cons_succ, List.set_cons_zero]; rfl)) ?_; simp only [Act.put, List.setIfInBounds_toArray, List.set_cons_succ, List.set_cons_zero])
    (refine wpRel_pur rfl rfl (fun x => by ((go_wp2_with (first | (go_at_call 26; refine (calls_ov (toSpot_any _ _ _ _)).mono ?_; rintro e w' ⟨rfl, x, rfl⟩))); refine relEnd_pur rfl ?_ (by repeat (first | exact Below.refl _ _ | refine below_ov _ _ ?_ (by first | omega | (simp [ov_size] <;> omega)) | refine Below.alloc ?_ (by first | omega | (simp [ov_size] <;> omega)) _ | refine Below.setCell ?_ (by first | omega | (simp [ov_size] <;> omega)) _ | refine Below.drew ?_ | refine below_drewN ?_ _)); simp only [Act.put, List.setIfInBounds_toArray, List.set_cons_succ, List.set_cons_zero]; rfl)) ?_; simp only [Act.put, List.setIfInBounds_toArray, List.set_cons_succ, List.set_cons_zero])
    (refine wpRel_pur rfl rfl (fun x => by ((go_wp2); refine relEnd_pur rfl ?_ (by repeat (first | exact Below.refl _ _ | refine below_ov _ _ ?_ (by first | omega | (simp [ov_size] <;> omega)) | refine Below.alloc ?_ (by first | omega | (simp [ov_size] <;> omega)) _ | refine Below.setCell ?_ (by first | omega | (simp [ov_size] <;> omega)) _ | refine Below.drew ?_ | refine below_drewN ?_ _)); simp only [Act.put, List.setIfInBounds_toArray, List.set_cons_succ, List.set_cons_zero]; rfl)) ?_; simp only [Act.put, List.setIfInBounds_toArray, List.set_cons_succ, List.set_cons_zero])
    (refine wpRel_pur rfl rfl (fun x => by ((go_wp2_with (first | (go_at_call 16; refine (calls_ov (toRatio_any _ _ _)).mono ?_; rintro e w' ⟨rfl, x, rfl⟩))); refine relEnd_pur rfl ?_ (by repeat (first | exact Below.refl _ _ | refine below_ov _ _ ?_ (by first | omega | (simp [ov_size] <;> omega)) | refine Below.alloc ?_ (by first | omega | (simp [ov_size] <;> omega)) _ | refine Below.setCell ?_ (by first | omega | (simp [ov_size] <;> omega)) _ | refine Below.drew ?_ | refine below_drewN ?_ _)); simp only [Act.put, List.setIfInBounds_toArray, List.set_cons_succ, List.set_cons_zero]; rfl)) ?_; simp only [Act.put, List.setIfInBounds_toArray, List.set_cons_succ, List.set_cons_zero])
    (refine wpRel_pur rfl rfl (fun x => by ((go_wp2); refine relEnd_pur rfl ?_ (by repeat (first | exact Below.refl _ _ | refine below_ov _ _ ?_ (by first | omega | (simp [ov_size] <;> omega)) | refine Below.alloc ?_ (by first | omega | (simp [ov_size] <;> omega)) _ | refine Below.setCell ?_ (by first | omega | (simp [ov_size] <;> omega)) _ | refine Below.drew ?_ | refine below_drewN ?_ _)); simp only [Act.put, List.setIfInBounds_toArray, List.set_cons_succ, List.set_cons_zero]; rfl)) ?_; simp only [Act.put, List.setIfInBounds_toArray, List.set_cons_succ, List.set_cons_zero])
    (refine wpRel_pur rfl rfl (fun x => by ((go_wp2_with (first | (go_at_call 26; refine (calls_ov (toSpot_any _ _ _ _)).mono ?_; rintro e w' ⟨rfl, x, rfl⟩))); refine relEnd_pur rfl ?_ (by repeat (first | exact Below.refl _ _ | refine below_ov _ _ ?_ (by first | omega | (simp [ov_size] <;> omega)) | refine Below.alloc ?_ (by first | omega | (simp [ov_size] <;> omega)) _ | refine Below.setCell ?_ (by first | omega | (simp [ov_size] <;> omega)) _ | refine Below.drew ?_ | refine below_drewN ?_ _)); simp only [Act.put, List.setIfInBounds_toArray, List.set_cons_succ, List.set_cons_zero]; rfl)) ?_; simp only [Act.put, List.setIfInBounds_toArray, List.set_cons_succ, List.set_cons_zero])
    (refine wpRel_purn rfl rfl (fun x hh => by ((obtain ⟨ao11, do11, ao12, do12, ao13, do13, f1, Qo1⟩ := isOw_at (hh 1 (by simp)) rfl; simp only [f1]); (go_wp2_with (first | (go_at_call 25; refine (calls_ov (spec_NextSpot_eq Qo1.rm hsrr ⟨hx1, hy1, he1⟩ ⟨hn1, hd1, by omega⟩ ⟨hx2, hy2, he2⟩ HR)).mono ?_; rintro e w' ⟨rfl, x, rfl⟩))); refine relEnd_pur rfl ?_ (by repeat (first | exact Below.refl _ _ | refine below_ov _ _ ?_ (by first | omega | (simp [ov_size] <;> omega)) | refine Below.alloc ?_ (by first | omega | (simp [ov_size] <;> omega)) _ | refine Below.setCell ?_ (by first | omega | (simp [ov_size] <;> omega)) _ | refine Below.drew ?_ | refine below_drewN ?_ _)); simp only [Act.put, List.setIfInBounds_toArray, List.set_cons_succ, List.set_cons_zero]; rfl)) ?_; simp only [Act.put, List.setIfInBounds_toArray, List.set_cons_succ, List.set_cons_zero])
    (refine wpRel_pur rfl rfl (fun x => by ((go_wp2); refine relEnd_pur rfl ?_ (by repeat (first | exact Below.refl _ _ | refine below_ov _ _ ?_ (by first | omega | (simp [ov_size] <;> omega)) | refine Below.alloc ?_ (by first | omega | (simp [ov_size] <;> omega)) _ | refine Below.setCell ?_ (by first | omega | (simp [ov_size] <;> omega)) _ | refine Below.drew ?_ | refine below_drewN ?_ _)); simp only [Act.put, List.setIfInBounds_toArray, List.set_cons_succ, List.set_cons_zero]; rfl)) ?_; simp only [Act.put, List.setIfInBounds_toArray, List.set_cons_succ, List.set_cons_zero])
    (refine wpRel_pur rfl rfl (fun x => by ((go_wp2); refine relEnd_pur rfl ?_ (by repeat (first | exact Below.refl _ _ | refine below_ov _ _ ?_ (by first | omega | (simp [ov_size] <;> omega)) | refine Below.alloc ?_ (by first | omega | (simp [ov_size] <;> omega)) _ | refine Below.setCell ?_ (by first | omega | (simp [ov_size] <;> omega)) _ | refine Below.drew ?_ | refine below_drewN ?_ _)); simp only [Act.put, List.setIfInBounds_toArray, List.set_cons_succ, List.set_cons_zero]; rfl)) ?_; simp only [Act.put, List.setIfInBounds_toArray, List.set_cons_succ, List.set_cons_zero])
    (refine wpRel_pur rfl rfl (fun x => by ((go_wp2); refine relEnd_pur rfl ?_ (by repeat (first | exact Below.refl _ _ | refine below_ov _ _ ?_ (by first | omega | (simp [ov_size] <;> omega)) | refine Below.alloc ?_ (by first | omega | (simp [ov_size] <;> omega)) _ | refine Below.setCell ?_ (by first | omega | (simp [ov_size] <;> omega)) _ | refine Below.drew ?_ | refine below_drewN ?_ _)); simp only [Act.put, List.setIfInBounds_toArray, List.set_cons_succ, List.set_cons_zero]; rfl)) ?_; simp only [Act.put, List.setIfInBounds_toArray, List.set_cons_succ, List.set_cons_zero])
    refine wpRel_al #[.int .i64 0, .int .i64 0, .int .i64 0] rfl rfl rfl rfl rfl rfl (fun w => by simp [go_sem]) ?_
    simp only [Act.put, List.setIfInBounds_toArray, List.set_cons_succ, List.set_cons_zero]
    refine wpRel_st rfl rfl rfl rfl rfl rfl (by decide) (by decide) rfl rfl (by kernel_rfl) ⟨rfl, by simp [Value.cells, Value.oneCell']⟩ (by repeat (first | exact all_nil | refine all_cons trivial ?_ | refine all_cons isAl_steady ?_ | refine all_cons (isOw_steady (by assumption)) ?_)) ?_
    (refine wpRel_pur rfl rfl (fun x => by ((go_wp2); refine relEnd_pur rfl ?_ (by repeat (first | exact Below.refl _ _ | refine below_ov _ _ ?_ (by first | omega | (simp [ov_size] <;> omega)) | refine Below.alloc ?_ (by first | omega | (simp [ov_size] <;> omega)) _ | refine Below.setCell ?_ (by first | omega | (simp [ov_size] <;> omega)) _ | refine Below.drew ?_ | refine below_drewN ?_ _)); simp only [Act.put, List.setIfInBounds_toArray, List.set_cons_succ, List.set_cons_zero]; rfl)) ?_; simp only [Act.put, List.setIfInBounds_toArray, List.set_cons_succ, List.set_cons_zero])
    refine wpRelE_nilB0 (fun W1 K hh => ?_)
    obtain ⟨bw, hen, hnb, hx⟩ := isSt_pur (hh 13) rfl rfl rfl
    simp only [hen]
    have Bw := Lib.hid (show W1.heap[bw]? = some (.cells #[.int .i64 r1, .int .i64 r2, .int .i64 r3] 54 (0, 0)) from hx)
    clear hx hnb hen
    clear hh
    clear Brrc0 Brrc1 Brrc2 Brrc3 Brrc4 Brrc5 Brrc6 Brrc7 Bx1c0 Bx1c1 Bx1c2 Bn1c0 Bn1c1 Bx2c0 Bx2c1 Bx2c2 Brrl Bx1l Bn1l Bx2l
    replace T := T.trans (K.mono T.size)
    replace Brr := box_below Brr K
    replace Bx1 := box_below Bx1 K
    replace Bn1 := box_below Bn1 K
    replace Bx2 := box_below Bx2 K
    clear K Srr
    have Srr := Rrr.below (TV.trans (T.mono s0))
    have Brrc0 := cell_blk (j := 0) (v := .slice Arr1 rr.m.length crr1) Brr.out rfl
    have Brrc1 := cell_blk (j := 1) (v := .int .i64 rr.q) Brr.out rfl
    have Brrc2 := cell_blk (j := 2) (v := .int .i64 rr.bx) Brr.out rfl
    have Brrc3 := cell_blk (j := 3) (v := .int .i64 rr.by_) Brr.out rfl
    have Brrc4 := cell_blk (j := 4) (v := .int .i64 rr.lo) Brr.out rfl
    have Brrc5 := cell_blk (j := 5) (v := .int .i64 rr.hi) Brr.out rfl
    have Brrc6 := cell_blk (j := 6) (v := .slice Arr2 rr.ns.length crr2) Brr.out rfl
    have Brrc7 := cell_blk (j := 7) (v := .slice Arr3 rr.ls.length crr3) Brr.out rfl
    have Brrl := (Array.getElem?_eq_some_iff.1 Brr.out).1
    have Bx1c0 := cell_blk (j := 0) (v := .int .i64 x1) Bx1.out rfl
    have Bx1c1 := cell_blk (j := 1) (v := .int .i64 y1) Bx1.out rfl
    have Bx1c2 := cell_blk (j := 2) (v := .int .i64 e1) Bx1.out rfl
    have Bx1l := (Array.getElem?_eq_some_iff.1 Bx1.out).1
    have Bn1c0 := cell_blk (j := 0) (v := .int .i64 n1) Bn1.out rfl
    have Bn1c1 := cell_blk (j := 1) (v := .int .i64 d1) Bn1.out rfl
    have Bn1l := (Array.getElem?_eq_some_iff.1 Bn1.out).1
    have Bx2c0 := cell_blk (j := 0) (v := .int .i64 x2) Bx2.out rfl
    have Bx2c1 := cell_blk (j := 1) (v := .int .i64 y2) Bx2.out rfl
    have Bx2c2 := cell_blk (j := 2) (v := .int .i64 e2) Bx2.out rfl
    have Bx2l := (Array.getElem?_eq_some_iff.1 Bx2.out).1
    have Bwc0 := cell_blk (j := 0) (v := .int .i64 r1) Bw.out rfl
    have Bwc1 := cell_blk (j := 1) (v := .int .i64 r2) Bw.out rfl
    have Bwc2 := cell_blk (j := 2) (v := .int .i64 r3) Bw.out rfl
    have Bwl := (Array.getElem?_eq_some_iff.1 Bw.out).1
    go_wp2_with fail
    clear Brrc0 Brrc1 Brrc2 Brrc3 Brrc4 Brrc5 Brrc6 Brrc7 Bx1c0 Bx1c1 Bx1c2 Bn1c0 Bn1c1 Bx2c0 Bx2c1 Bx2c2 Bwc0 Bwc1 Bwc2 Brrl Bx1l Bn1l Bx2l Bwl
    refine (toRoom_any rr (Srr.below (by repeat (first | exact Below.refl _ _ | refine below_ov _ _ ?_ (by first | omega | (simp [ov_size] <;> omega)) | refine Below.alloc ?_ (by first | omega | (simp [ov_size] <;> omega)) _ | refine Below.setCell ?_ (by first | omega | (simp [ov_size] <;> omega)) _ | refine Below.drew ?_ | refine below_drewN ?_ _))) hsrr).mono ?_
    rintro e W2 ⟨axrr1, dxrr1, axrr2, dxrr2, axrr3, dxrr3, rfl, Xxrr, hb⟩
    have K : Below W1.heap.size W1 W2 := Below.trans (by repeat (first | exact Below.refl _ _ | refine below_ov _ _ ?_ (by first | omega | (simp [ov_size] <;> omega)) | refine Below.alloc ?_ (by first | omega | (simp [ov_size] <;> omega)) _ | refine Below.setCell ?_ (by first | omega | (simp [ov_size] <;> omega)) _ | refine Below.drew ?_ | refine below_drewN ?_ _)) (hb.mono (by first | exact Nat.le_refl _ | simp [ov_size]))
    replace Xxrr := Xxrr.weak (B' := V.heap.size) (by have := T.size; simp [ov_size]; omega)
    clear hb
    replace T := T.trans (K.mono T.size)
    replace Brr := box_below Brr K
    replace Bx1 := box_below Bx1 K
    replace Bn1 := box_below Bn1 K
    replace Bx2 := box_below Bx2 K
    replace Bw := box_below Bw K
    clear K Srr
    have Srr := Rrr.below (TV.trans (T.mono s0))
    have Brrc0 := cell_blk (j := 0) (v := .slice Arr1 rr.m.length crr1) Brr.out rfl
    have Brrc1 := cell_blk (j := 1) (v := .int .i64 rr.q) Brr.out rfl
    have Brrc2 := cell_blk (j := 2) (v := .int .i64 rr.bx) Brr.out rfl
    have Brrc3 := cell_blk (j := 3) (v := .int .i64 rr.by_) Brr.out rfl
    have Brrc4 := cell_blk (j := 4) (v := .int .i64 rr.lo) Brr.out rfl
    have Brrc5 := cell_blk (j := 5) (v := .int .i64 rr.hi) Brr.out rfl
    have Brrc6 := cell_blk (j := 6) (v := .slice Arr2 rr.ns.length crr2) Brr.out rfl
    have Brrc7 := cell_blk (j := 7) (v := .slice Arr3 rr.ls.length crr3) Brr.out rfl
    have Brrl := (Array.getElem?_eq_some_iff.1 Brr.out).1
    have Bx1c0 := cell_blk (j := 0) (v := .int .i64 x1) Bx1.out rfl
    have Bx1c1 := cell_blk (j := 1) (v := .int .i64 y1) Bx1.out rfl
    have Bx1c2 := cell_blk (j := 2) (v := .int .i64 e1) Bx1.out rfl
    have Bx1l := (Array.getElem?_eq_some_iff.1 Bx1.out).1
    have Bn1c0 := cell_blk (j := 0) (v := .int .i64 n1) Bn1.out rfl
    have Bn1c1 := cell_blk (j := 1) (v := .int .i64 d1) Bn1.out rfl
    have Bn1l := (Array.getElem?_eq_some_iff.1 Bn1.out).1
    have Bx2c0 := cell_blk (j := 0) (v := .int .i64 x2) Bx2.out rfl
    have Bx2c1 := cell_blk (j := 1) (v := .int .i64 y2) Bx2.out rfl
    have Bx2c2 := cell_blk (j := 2) (v := .int .i64 e2) Bx2.out rfl
    have Bx2l := (Array.getElem?_eq_some_iff.1 Bx2.out).1
    have Bwc0 := cell_blk (j := 0) (v := .int .i64 r1) Bw.out rfl
    have Bwc1 := cell_blk (j := 1) (v := .int .i64 r2) Bw.out rfl
    have Bwc2 := cell_blk (j := 2) (v := .int .i64 r3) Bw.out rfl
    have Bwl := (Array.getElem?_eq_some_iff.1 Bw.out).1
    go_wp2_with fail
    clear Brrc0 Brrc1 Brrc2 Brrc3 Brrc4 Brrc5 Brrc6 Brrc7 Bx1c0 Bx1c1 Bx1c2 Bn1c0 Bn1c1 Bx2c0 Bx2c1 Bx2c2 Bwc0 Bwc1 Bwc2 Brrl Bx1l Bn1l Bx2l Bwl
    obtain ⟨bxrr, hbx⟩ : ∃ b, b = W2.heap.size := ⟨_, rfl⟩
    rw [← hbx]
    obtain ⟨W3, hW⟩ : ∃ W, W = W2.alloc (.cells #[.slice (some ⟨axrr1, 0, none⟩) rr.m.length dxrr1, .int .i64 rr.q, .int .i64 rr.bx, .int .i64 rr.by_, .int .i64 rr.lo, .int .i64 rr.hi, .slice axrr2 rr.ns.length dxrr2, .slice axrr3 rr.ls.length dxrr3] 36) := ⟨_, rfl⟩
    rw [← hW]
    have K : Below W2.heap.size W2 W3 := by rw [hW]; exact (by repeat (first | exact Below.refl _ _ | refine below_ov _ _ ?_ (by first | omega | (simp [ov_size] <;> omega)) | refine Below.alloc ?_ (by first | omega | (simp [ov_size] <;> omega)) _ | refine Below.setCell ?_ (by first | omega | (simp [ov_size] <;> omega)) _ | refine Below.drew ?_ | refine below_drewN ?_ _))
    have Bxrr := Lib.hid (show W3.heap[bxrr]? = some (.cells #[.slice (some ⟨axrr1, 0, none⟩) rr.m.length dxrr1, .int .i64 rr.q, .int .i64 rr.bx, .int .i64 rr.by_, .int .i64 rr.lo, .int .i64 rr.hi, .slice axrr2 rr.ns.length dxrr2, .slice axrr3 rr.ls.length dxrr3] 36 (0, 0)) by rw [hW, hbx]; exact heap_alloc_new _ _)
    clear hW hbx
    replace T := T.trans (K.mono T.size)
    replace Brr := box_below Brr K
    replace Bx1 := box_below Bx1 K
    replace Bn1 := box_below Bn1 K
    replace Bx2 := box_below Bx2 K
    replace Bw := box_below Bw K
    replace Xxrr := Xxrr.below K
    clear K Srr
    have Srr := Rrr.below (TV.trans (T.mono s0))
    have Brrc0 := cell_blk (j := 0) (v := .slice Arr1 rr.m.length crr1) Brr.out rfl
    have Brrc1 := cell_blk (j := 1) (v := .int .i64 rr.q) Brr.out rfl
    have Brrc2 := cell_blk (j := 2) (v := .int .i64 rr.bx) Brr.out rfl
    have Brrc3 := cell_blk (j := 3) (v := .int .i64 rr.by_) Brr.out rfl
    have Brrc4 := cell_blk (j := 4) (v := .int .i64 rr.lo) Brr.out rfl
    have Brrc5 := cell_blk (j := 5) (v := .int .i64 rr.hi) Brr.out rfl
    have Brrc6 := cell_blk (j := 6) (v := .slice Arr2 rr.ns.length crr2) Brr.out rfl
    have Brrc7 := cell_blk (j := 7) (v := .slice Arr3 rr.ls.length crr3) Brr.out rfl
    have Brrl := (Array.getElem?_eq_some_iff.1 Brr.out).1
    have Bx1c0 := cell_blk (j := 0) (v := .int .i64 x1) Bx1.out rfl
    have Bx1c1 := cell_blk (j := 1) (v := .int .i64 y1) Bx1.out rfl
    have Bx1c2 := cell_blk (j := 2) (v := .int .i64 e1) Bx1.out rfl
    have Bx1l := (Array.getElem?_eq_some_iff.1 Bx1.out).1
    have Bn1c0 := cell_blk (j := 0) (v := .int .i64 n1) Bn1.out rfl
    have Bn1c1 := cell_blk (j := 1) (v := .int .i64 d1) Bn1.out rfl
    have Bn1l := (Array.getElem?_eq_some_iff.1 Bn1.out).1
    have Bx2c0 := cell_blk (j := 0) (v := .int .i64 x2) Bx2.out rfl
    have Bx2c1 := cell_blk (j := 1) (v := .int .i64 y2) Bx2.out rfl
    have Bx2c2 := cell_blk (j := 2) (v := .int .i64 e2) Bx2.out rfl
    have Bx2l := (Array.getElem?_eq_some_iff.1 Bx2.out).1
    have Bwc0 := cell_blk (j := 0) (v := .int .i64 r1) Bw.out rfl
    have Bwc1 := cell_blk (j := 1) (v := .int .i64 r2) Bw.out rfl
    have Bwc2 := cell_blk (j := 2) (v := .int .i64 r3) Bw.out rfl
    have Bwl := (Array.getElem?_eq_some_iff.1 Bw.out).1
    have Bxrrc0 := cell_blk (j := 0) (v := .slice (some ⟨axrr1, 0, none⟩) rr.m.length dxrr1) Bxrr.out rfl
    have Bxrrc1 := cell_blk (j := 1) (v := .int .i64 rr.q) Bxrr.out rfl
    have Bxrrc2 := cell_blk (j := 2) (v := .int .i64 rr.bx) Bxrr.out rfl
    have Bxrrc3 := cell_blk (j := 3) (v := .int .i64 rr.by_) Bxrr.out rfl
    have Bxrrc4 := cell_blk (j := 4) (v := .int .i64 rr.lo) Bxrr.out rfl
    have Bxrrc5 := cell_blk (j := 5) (v := .int .i64 rr.hi) Bxrr.out rfl
    have Bxrrc6 := cell_blk (j := 6) (v := .slice axrr2 rr.ns.length dxrr2) Bxrr.out rfl
    have Bxrrc7 := cell_blk (j := 7) (v := .slice axrr3 rr.ls.length dxrr3) Bxrr.out rfl
    have Bxrrl := (Array.getElem?_eq_some_iff.1 Bxrr.out).1
    refine wp_region_rel [.pur [] ?d2c0, .pur [] ?d2c1, .pur [] ?d2c2, .pur [] ?d2c3, .pur [] ?d2c4, .pur [] ?d2c5, .pur [] ?d2c6, .pur [] ?d2c7, .pur [] ?d2c8, .pur [] ?d2c9, .pur [] ?d2c10, .rel [] [11] false (IsAl 54 3), .rel [11, 9] [11, 9] true (IsSt 54), .pur [] ?d2c13] _ rfl rfl (by kernel_rfl) (by kernel_rfl) ?hstd2 (fun vs => ?walkd2)
    case' walkd2 =>
      (refine wpRel_pur rfl rfl (fun x => by ((go_wp2); refine relEnd_pur rfl ?_ (by repeat (first | exact Below.refl _ _ | refine below_ov _ _ ?_ (by first | omega | (simp [ov_size] <;> omega)) | refine Below.alloc ?_ (by first | omega | (simp [ov_size] <;> omega)) _ | refine Below.setCell ?_ (by first | omega | (simp [ov_size] <;> omega)) _ | refine Below.drew ?_ | refine below_drewN ?_ _)); simp only [Act.put, List.setIfInBounds_toArray, List.set_cons_succ, List.set_cons_zero]; rfl)) ?_; simp only [Act.put, List.setIfInBounds_toArray, List.set_cons_succ, List.set_cons_zero])
      (refine wpRel_pur rfl rfl (fun x => by ((go_wp2); refine relEnd_pur rfl ?_ (by repeat (first | exact Below.refl _ _ | refine below_ov _ _ ?_ (by first | omega | (simp [ov_size] <;> omega)) | refine Below.alloc ?_ (by first | omega | (simp [ov_size] <;> omega)) _ | refine Below.setCell ?_ (by first | omega | (simp [ov_size] <;> omega)) _ | refine Below.drew ?_ | refine below_drewN ?_ _)); simp only [Act.put, List.setIfInBounds_toArray, List.set_cons_succ, List.set_cons_zero]; rfl)) ?_; simp only [Act.put, List.setIfInBounds_toArray, List.set_cons_succ, List.set_cons_zero])
      (refine wpRel_pur rfl rfl (fun x => by ((go_wp2_with (first | (go_at_call 26; refine (calls_ov (toSpot_any _ _ _ _)).mono ?_; rintro e w' ⟨rfl, x, rfl⟩))); refine relEnd_pur rfl ?_ (by repeat (first | exact Below.refl _ _ | refine below_ov _ _ ?_ (by first | omega | (simp [ov_size] <;> omega)) | refine Below.alloc ?_ (by first | omega | (simp [ov_size] <;> omega)) _ | refine Below.setCell ?_ (by first | omega | (simp [ov_size] <;> omega)) _ | refine Below.drew ?_ | refine below_drewN ?_ _)); simp only [Act.put, List.setIfInBounds_toArray, List.set_cons_succ, List.set_cons_zero]; rfl)) ?_; simp only [Act.put, List.setIfInBounds_toArray, List.set_cons_succ, List.set_cons_zero])
      (refine wpRel_pur rfl rfl (fun x => by ((go_wp2); refine relEnd_pur rfl ?_ (by repeat (first | exact Below.refl _ _ | refine below_ov _ _ ?_ (by first | omega | (simp [ov_size] <;> omega)) | refine Below.alloc ?_ (by first | omega | (simp [ov_size] <;> omega)) _ | refine Below.setCell ?_ (by first | omega | (simp [ov_size] <;> omega)) _ | refine Below.drew ?_ | refine below_drewN ?_ _)); simp only [Act.put, List.setIfInBounds_toArray, List.set_cons_succ, List.set_cons_zero]; rfl)) ?_; simp only [Act.put, List.setIfInBounds_toArray, List.set_cons_succ, List.set_cons_zero])
      (refine wpRel_pur rfl rfl (fun x => by ((go_wp2_with (first | (go_at_call 16; refine (calls_ov (toRatio_any _ _ _)).mono ?_; rintro e w' ⟨rfl, x, rfl⟩))); refine relEnd_pur rfl ?_ (by repeat (first | exact Below.refl _ _ | refine below_ov _ _ ?_ (by first | omega | (simp [ov_size] <;> omega)) | refine Below.alloc ?_ (by first | omega | (simp [ov_size] <;> omega)) _ | refine Below.setCell ?_ (by first | omega | (simp [ov_size] <;> omega)) _ | refine Below.drew ?_ | refine below_drewN ?_ _)); simp only [Act.put, List.setIfInBounds_toArray, List.set_cons_succ, List.set_cons_zero]; rfl)) ?_; simp only [Act.put, List.setIfInBounds_toArray, List.set_cons_succ, List.set_cons_zero])
      (refine wpRel_pur rfl rfl (fun x => by ((go_wp2); refine relEnd_pur rfl ?_ (by repeat (first | exact Below.refl _ _ | refine below_ov _ _ ?_ (by first | omega | (simp [ov_size] <;> omega)) | refine Below.alloc ?_ (by first | omega | (simp [ov_size] <;> omega)) _ | refine Below.setCell ?_ (by first | omega | (simp [ov_size] <;> omega)) _ | refine Below.drew ?_ | refine below_drewN ?_ _)); simp only [Act.put, List.setIfInBounds_toArray, List.set_cons_succ, List.set_cons_zero]; rfl)) ?_; simp only [Act.put, List.setIfInBounds_toArray, List.set_cons_succ, List.set_cons_zero])
      (refine wpRel_pur rfl rfl (fun x => by ((go_wp2_with (first | (go_at_call 26; refine (calls_ov (toSpot_any _ _ _ _)).mono ?_; rintro e w' ⟨rfl, x, rfl⟩))); refine relEnd_pur rfl ?_ (by repeat (first | exact Below.refl _ _ | refine below_ov _ _ ?_ (by first | omega | (simp [ov_size] <;> omega)) | refine Below.alloc ?_ (by first | omega | (simp [ov_size] <;> omega)) _ | refine Below.setCell ?_ (by first | omega | (simp [ov_size] <;> omega)) _ | refine Below.drew ?_ | refine below_drewN ?_ _)); simp only [Act.put, List.setIfInBounds_toArray, List.set_cons_succ, List.set_cons_zero]; rfl)) ?_; simp only [Act.put, List.setIfInBounds_toArray, List.set_cons_succ, List.set_cons_zero])
      (refine wpRel_pur rfl rfl (fun x => by ((go_wp2_with (first | (go_at_call 27; refine (calls_ov (impl_NextSpot_eq ((Xxrr.below (by repeat (first | exact Below.refl _ _ | refine below_ov _ _ ?_ (by first | omega | (simp [ov_size] <;> omega)) | refine Below.alloc ?_ (by first | omega | (simp [ov_size] <;> omega)) _ | refine Below.setCell ?_ (by first | omega | (simp [ov_size] <;> omega)) _ | refine Below.drew ?_ | refine below_drewN ?_ _))).rm) hsrr ⟨hx1, hy1, he1⟩ ⟨hn1, hd1, by omega⟩ ⟨hx2, hy2, he2⟩ HR)).mono ?_; rintro e w' ⟨rfl, x, rfl⟩))); refine relEnd_pur rfl ?_ (by repeat (first | exact Below.refl _ _ | refine below_ov _ _ ?_ (by first | omega | (simp [ov_size] <;> omega)) | refine Below.alloc ?_ (by first | omega | (simp [ov_size] <;> omega)) _ | refine Below.setCell ?_ (by first | omega | (simp [ov_size] <;> omega)) _ | refine Below.drew ?_ | refine below_drewN ?_ _)); simp only [Act.put, List.setIfInBounds_toArray, List.set_cons_succ, List.set_cons_zero]; rfl)) ?_; simp only [Act.put, List.setIfInBounds_toArray, List.set_cons_succ, List.set_cons_zero])
      (refine wpRel_pur rfl rfl (fun x => by ((go_wp2); refine relEnd_pur rfl ?_ (by repeat (first | exact Below.refl _ _ | refine below_ov _ _ ?_ (by first | omega | (simp [ov_size] <;> omega)) | refine Below.alloc ?_ (by first | omega | (simp [ov_size] <;> omega)) _ | refine Below.setCell ?_ (by first | omega | (simp [ov_size] <;> omega)) _ | refine Below.drew ?_ | refine below_drewN ?_ _)); simp only [Act.put, List.setIfInBounds_toArray, List.set_cons_succ, List.set_cons_zero]; rfl)) ?_; simp only [Act.put, List.setIfInBounds_toArray, List.set_cons_succ, List.set_cons_zero])
      (refine wpRel_pur rfl rfl (fun x => by ((go_wp2); refine relEnd_pur rfl ?_ (by repeat (first | exact Below.refl _ _ | refine below_ov _ _ ?_ (by first | omega | (simp [ov_size] <;> omega)) | refine Below.alloc ?_ (by first | omega | (simp [ov_size] <;> omega)) _ | refine Below.setCell ?_ (by first | omega | (simp [ov_size] <;> omega)) _ | refine Below.drew ?_ | refine below_drewN ?_ _)); simp only [Act.put, List.setIfInBounds_toArray, List.set_cons_succ, List.set_cons_zero]; rfl)) ?_; simp only [Act.put, List.setIfInBounds_toArray, List.set_cons_succ, List.set_cons_zero])
      (refine wpRel_pur rfl rfl (fun x => by ((go_wp2); refine relEnd_pur rfl ?_ (by repeat (first | exact Below.refl _ _ | refine below_ov _ _ ?_ (by first | omega | (simp [ov_size] <;> omega)) | refine Below.alloc ?_ (by first | omega | (simp [ov_size] <;> omega)) _ | refine Below.setCell ?_ (by first | omega | (simp [ov_size] <;> omega)) _ | refine Below.drew ?_ | refine below_drewN ?_ _)); simp only [Act.put, List.setIfInBounds_toArray, List.set_cons_succ, List.set_cons_zero]; rfl)) ?_; simp only [Act.put, List.setIfInBounds_toArray, List.set_cons_succ, List.set_cons_zero])
      refine wpRel_al #[.int .i64 0, .int .i64 0, .int .i64 0] rfl rfl rfl rfl rfl rfl (fun w => by simp [go_sem]) ?_
      simp only [Act.put, List.setIfInBounds_toArray, List.set_cons_succ, List.set_cons_zero]
      refine wpRel_st rfl rfl rfl rfl rfl rfl (by decide) (by decide) rfl rfl (by kernel_rfl) ⟨rfl, by simp [Value.cells, Value.oneCell']⟩ (by repeat (first | exact all_nil | refine all_cons trivial ?_ | refine all_cons isAl_steady ?_ | refine all_cons (isOw_steady (by assumption)) ?_)) ?_
      (refine wpRel_pur rfl rfl (fun x => by ((go_wp2); refine relEnd_pur rfl ?_ (by repeat (first | exact Below.refl _ _ | refine below_ov _ _ ?_ (by first | omega | (simp [ov_size] <;> omega)) | refine Below.alloc ?_ (by first | omega | (simp [ov_size] <;> omega)) _ | refine Below.setCell ?_ (by first | omega | (simp [ov_size] <;> omega)) _ | refine Below.drew ?_ | refine below_drewN ?_ _)); simp only [Act.put, List.setIfInBounds_toArray, List.set_cons_succ, List.set_cons_zero]; rfl)) ?_; simp only [Act.put, List.setIfInBounds_toArray, List.set_cons_succ, List.set_cons_zero])
      refine wpRelE_nilB0 (fun W4 K hh => ?_)
      obtain ⟨bg, hen, hnb, hx⟩ := isSt_pur (hh 12) rfl rfl rfl
      simp only [hen]
      have Bg := Lib.hid (show W4.heap[bg]? = some (.cells #[.int .i64 r1, .int .i64 r2, .int .i64 r3] 54 (0, 0)) from hx)
      clear hx hnb hen
      clear hh
      clear Brrc0 Brrc1 Brrc2 Brrc3 Brrc4 Brrc5 Brrc6 Brrc7 Bx1c0 Bx1c1 Bx1c2 Bn1c0 Bn1c1 Bx2c0 Bx2c1 Bx2c2 Bwc0 Bwc1 Bwc2 Bxrrc0 Bxrrc1 Bxrrc2 Bxrrc3 Bxrrc4 Bxrrc5 Bxrrc6 Bxrrc7 Brrl Bx1l Bn1l Bx2l Bwl Bxrrl
      replace T := T.trans (K.mono T.size)
      replace Brr := box_below Brr K
      replace Bx1 := box_below Bx1 K
      replace Bn1 := box_below Bn1 K
      replace Bx2 := box_below Bx2 K
      replace Bw := box_below Bw K
      replace Bxrr := box_below Bxrr K
      replace Xxrr := Xxrr.below K
      clear K Srr
      have Srr := Rrr.below (TV.trans (T.mono s0))
      have Brrc0 := cell_blk (j := 0) (v := .slice Arr1 rr.m.length crr1) Brr.out rfl
      have Brrc1 := cell_blk (j := 1) (v := .int .i64 rr.q) Brr.out rfl
      have Brrc2 := cell_blk (j := 2) (v := .int .i64 rr.bx) Brr.out rfl
      have Brrc3 := cell_blk (j := 3) (v := .int .i64 rr.by_) Brr.out rfl
      have Brrc4 := cell_blk (j := 4) (v := .int .i64 rr.lo) Brr.out rfl
      have Brrc5 := cell_blk (j := 5) (v := .int .i64 rr.hi) Brr.out rfl
      have Brrc6 := cell_blk (j := 6) (v := .slice Arr2 rr.ns.length crr2) Brr.out rfl
      have Brrc7 := cell_blk (j := 7) (v := .slice Arr3 rr.ls.length crr3) Brr.out rfl
      have Brrl := (Array.getElem?_eq_some_iff.1 Brr.out).1
      have Bx1c0 := cell_blk (j := 0) (v := .int .i64 x1) Bx1.out rfl
      have Bx1c1 := cell_blk (j := 1) (v := .int .i64 y1) Bx1.out rfl
      have Bx1c2 := cell_blk (j := 2) (v := .int .i64 e1) Bx1.out rfl
      have Bx1l := (Array.getElem?_eq_some_iff.1 Bx1.out).1
      have Bn1c0 := cell_blk (j := 0) (v := .int .i64 n1) Bn1.out rfl
      have Bn1c1 := cell_blk (j := 1) (v := .int .i64 d1) Bn1.out rfl
      have Bn1l := (Array.getElem?_eq_some_iff.1 Bn1.out).1
      have Bx2c0 := cell_blk (j := 0) (v := .int .i64 x2) Bx2.out rfl
      have Bx2c1 := cell_blk (j := 1) (v := .int .i64 y2) Bx2.out rfl
      have Bx2c2 := cell_blk (j := 2) (v := .int .i64 e2) Bx2.out rfl
      have Bx2l := (Array.getElem?_eq_some_iff.1 Bx2.out).1
      have Bwc0 := cell_blk (j := 0) (v := .int .i64 r1) Bw.out rfl
      have Bwc1 := cell_blk (j := 1) (v := .int .i64 r2) Bw.out rfl
      have Bwc2 := cell_blk (j := 2) (v := .int .i64 r3) Bw.out rfl
      have Bwl := (Array.getElem?_eq_some_iff.1 Bw.out).1
      have Bxrrc0 := cell_blk (j := 0) (v := .slice (some ⟨axrr1, 0, none⟩) rr.m.length dxrr1) Bxrr.out rfl
      have Bxrrc1 := cell_blk (j := 1) (v := .int .i64 rr.q) Bxrr.out rfl
      have Bxrrc2 := cell_blk (j := 2) (v := .int .i64 rr.bx) Bxrr.out rfl
      have Bxrrc3 := cell_blk (j := 3) (v := .int .i64 rr.by_) Bxrr.out rfl
      have Bxrrc4 := cell_blk (j := 4) (v := .int .i64 rr.lo) Bxrr.out rfl
      have Bxrrc5 := cell_blk (j := 5) (v := .int .i64 rr.hi) Bxrr.out rfl
      have Bxrrc6 := cell_blk (j := 6) (v := .slice axrr2 rr.ns.length dxrr2) Bxrr.out rfl
      have Bxrrc7 := cell_blk (j := 7) (v := .slice axrr3 rr.ls.length dxrr3) Bxrr.out rfl
      have Bxrrl := (Array.getElem?_eq_some_iff.1 Bxrr.out).1
      have Bgc0 := cell_blk (j := 0) (v := .int .i64 r1) Bg.out rfl
      have Bgc1 := cell_blk (j := 1) (v := .int .i64 r2) Bg.out rfl
      have Bgc2 := cell_blk (j := 2) (v := .int .i64 r3) Bg.out rfl
      have Bgl := (Array.getElem?_eq_some_iff.1 Bg.out).1
      go_wp2_with fail
      clear Brrc0 Brrc1 Brrc2 Brrc3 Brrc4 Brrc5 Brrc6 Brrc7 Bx1c0 Bx1c1 Bx1c2 Bn1c0 Bn1c1 Bx2c0 Bx2c1 Bx2c2 Bwc0 Bwc1 Bwc2 Bxrrc0 Bxrrc1 Bxrrc2 Bxrrc3 Bxrrc4 Bxrrc5 Bxrrc6 Bxrrc7 Bgc0 Bgc1 Bgc2 Brrl Bx1l Bn1l Bx2l Bwl Bxrrl Bgl
      refine (calls_ov (eqSpot_same _ _ _ _)).mono ?_
      rintro e w' ⟨rfl, x, rfl⟩
      obtain ⟨W5, hW⟩ : ∃ W5, W5 = ov W4 x := ⟨_, rfl⟩
      rw [← hW]
      have K : Below W4.heap.size W4 W5 := by rw [hW]; exact (by repeat (first | exact Below.refl _ _ | refine below_ov _ _ ?_ (by first | omega | (simp [ov_size] <;> omega)) | refine Below.alloc ?_ (by first | omega | (simp [ov_size] <;> omega)) _ | refine Below.setCell ?_ (by first | omega | (simp [ov_size] <;> omega)) _ | refine Below.drew ?_ | refine below_drewN ?_ _))
      clear hW
      replace T := T.trans (K.mono T.size)
      replace Brr := box_below Brr K
      replace Bx1 := box_below Bx1 K
      replace Bn1 := box_below Bn1 K
      replace Bx2 := box_below Bx2 K
      replace Bw := box_below Bw K
      replace Bxrr := box_below Bxrr K
      replace Bg := box_below Bg K
      replace Xxrr := Xxrr.below K
      clear K Srr
      have Srr := Rrr.below (TV.trans (T.mono s0))
      have Brrc0 := cell_blk (j := 0) (v := .slice Arr1 rr.m.length crr1) Brr.out rfl
      have Brrc1 := cell_blk (j := 1) (v := .int .i64 rr.q) Brr.out rfl
      have Brrc2 := cell_blk (j := 2) (v := .int .i64 rr.bx) Brr.out rfl
      have Brrc3 := cell_blk (j := 3) (v := .int .i64 rr.by_) Brr.out rfl
      have Brrc4 := cell_blk (j := 4) (v := .int .i64 rr.lo) Brr.out rfl
      have Brrc5 := cell_blk (j := 5) (v := .int .i64 rr.hi) Brr.out rfl
      have Brrc6 := cell_blk (j := 6) (v := .slice Arr2 rr.ns.length crr2) Brr.out rfl
      have Brrc7 := cell_blk (j := 7) (v := .slice Arr3 rr.ls.length crr3) Brr.out rfl
      have Brrl := (Array.getElem?_eq_some_iff.1 Brr.out).1
      have Bx1c0 := cell_blk (j := 0) (v := .int .i64 x1) Bx1.out rfl
      have Bx1c1 := cell_blk (j := 1) (v := .int .i64 y1) Bx1.out rfl
      have Bx1c2 := cell_blk (j := 2) (v := .int .i64 e1) Bx1.out rfl
      have Bx1l := (Array.getElem?_eq_some_iff.1 Bx1.out).1
      have Bn1c0 := cell_blk (j := 0) (v := .int .i64 n1) Bn1.out rfl
      have Bn1c1 := cell_blk (j := 1) (v := .int .i64 d1) Bn1.out rfl
      have Bn1l := (Array.getElem?_eq_some_iff.1 Bn1.out).1
      have Bx2c0 := cell_blk (j := 0) (v := .int .i64 x2) Bx2.out rfl
      have Bx2c1 := cell_blk (j := 1) (v := .int .i64 y2) Bx2.out rfl
      have Bx2c2 := cell_blk (j := 2) (v := .int .i64 e2) Bx2.out rfl
      have Bx2l := (Array.getElem?_eq_some_iff.1 Bx2.out).1
      have Bwc0 := cell_blk (j := 0) (v := .int .i64 r1) Bw.out rfl
      have Bwc1 := cell_blk (j := 1) (v := .int .i64 r2) Bw.out rfl
      have Bwc2 := cell_blk (j := 2) (v := .int .i64 r3) Bw.out rfl
      have Bwl := (Array.getElem?_eq_some_iff.1 Bw.out).1
      have Bxrrc0 := cell_blk (j := 0) (v := .slice (some ⟨axrr1, 0, none⟩) rr.m.length dxrr1) Bxrr.out rfl
      have Bxrrc1 := cell_blk (j := 1) (v := .int .i64 rr.q) Bxrr.out rfl
      have Bxrrc2 := cell_blk (j := 2) (v := .int .i64 rr.bx) Bxrr.out rfl
      have Bxrrc3 := cell_blk (j := 3) (v := .int .i64 rr.by_) Bxrr.out rfl
      have Bxrrc4 := cell_blk (j := 4) (v := .int .i64 rr.lo) Bxrr.out rfl
      have Bxrrc5 := cell_blk (j := 5) (v := .int .i64 rr.hi) Bxrr.out rfl
      have Bxrrc6 := cell_blk (j := 6) (v := .slice axrr2 rr.ns.length dxrr2) Bxrr.out rfl
      have Bxrrc7 := cell_blk (j := 7) (v := .slice axrr3 rr.ls.length dxrr3) Bxrr.out rfl
      have Bxrrl := (Array.getElem?_eq_some_iff.1 Bxrr.out).1
      have Bgc0 := cell_blk (j := 0) (v := .int .i64 r1) Bg.out rfl
      have Bgc1 := cell_blk (j := 1) (v := .int .i64 r2) Bg.out rfl
      have Bgc2 := cell_blk (j := 2) (v := .int .i64 r3) Bg.out rfl
      have Bgl := (Array.getElem?_eq_some_iff.1 Bg.out).1
      go_wp2_with fail
      clear Brrc0 Brrc1 Brrc2 Brrc3 Brrc4 Brrc5 Brrc6 Brrc7 Bx1c0 Bx1c1 Bx1c2 Bn1c0 Bn1c1 Bx2c0 Bx2c1 Bx2c2 Bwc0 Bwc1 Bwc2 Bxrrc0 Bxrrc1 Bxrrc2 Bxrrc3 Bxrrc4 Bxrrc5 Bxrrc6 Bxrrc7 Bgc0 Bgc1 Bgc2 Brrl Bx1l Bn1l Bx2l Bwl Bxrrl Bgl
      have Brrc0 := cell_blk (j := 0) (v := .slice Arr1 rr.m.length crr1) Brr.out rfl
      have Brrc1 := cell_blk (j := 1) (v := .int .i64 rr.q) Brr.out rfl
      have Brrc2 := cell_blk (j := 2) (v := .int .i64 rr.bx) Brr.out rfl
      have Brrc3 := cell_blk (j := 3) (v := .int .i64 rr.by_) Brr.out rfl
      have Brrc4 := cell_blk (j := 4) (v := .int .i64 rr.lo) Brr.out rfl
      have Brrc5 := cell_blk (j := 5) (v := .int .i64 rr.hi) Brr.out rfl
      have Brrc6 := cell_blk (j := 6) (v := .slice Arr2 rr.ns.length crr2) Brr.out rfl
      have Brrc7 := cell_blk (j := 7) (v := .slice Arr3 rr.ls.length crr3) Brr.out rfl
      have Brrl := (Array.getElem?_eq_some_iff.1 Brr.out).1
      have Bx1c0 := cell_blk (j := 0) (v := .int .i64 x1) Bx1.out rfl
      have Bx1c1 := cell_blk (j := 1) (v := .int .i64 y1) Bx1.out rfl
      have Bx1c2 := cell_blk (j := 2) (v := .int .i64 e1) Bx1.out rfl
      have Bx1l := (Array.getElem?_eq_some_iff.1 Bx1.out).1
      have Bn1c0 := cell_blk (j := 0) (v := .int .i64 n1) Bn1.out rfl
      have Bn1c1 := cell_blk (j := 1) (v := .int .i64 d1) Bn1.out rfl
      have Bn1l := (Array.getElem?_eq_some_iff.1 Bn1.out).1
      have Bx2c0 := cell_blk (j := 0) (v := .int .i64 x2) Bx2.out rfl
      have Bx2c1 := cell_blk (j := 1) (v := .int .i64 y2) Bx2.out rfl
      have Bx2c2 := cell_blk (j := 2) (v := .int .i64 e2) Bx2.out rfl
      have Bx2l := (Array.getElem?_eq_some_iff.1 Bx2.out).1
      have Bwc0 := cell_blk (j := 0) (v := .int .i64 r1) Bw.out rfl
      have Bwc1 := cell_blk (j := 1) (v := .int .i64 r2) Bw.out rfl
      have Bwc2 := cell_blk (j := 2) (v := .int .i64 r3) Bw.out rfl
      have Bwl := (Array.getElem?_eq_some_iff.1 Bw.out).1
      have Bxrrc0 := cell_blk (j := 0) (v := .slice (some ⟨axrr1, 0, none⟩) rr.m.length dxrr1) Bxrr.out rfl
      have Bxrrc1 := cell_blk (j := 1) (v := .int .i64 rr.q) Bxrr.out rfl
      have Bxrrc2 := cell_blk (j := 2) (v := .int .i64 rr.bx) Bxrr.out rfl
      have Bxrrc3 := cell_blk (j := 3) (v := .int .i64 rr.by_) Bxrr.out rfl
      have Bxrrc4 := cell_blk (j := 4) (v := .int .i64 rr.lo) Bxrr.out rfl
      have Bxrrc5 := cell_blk (j := 5) (v := .int .i64 rr.hi) Bxrr.out rfl
      have Bxrrc6 := cell_blk (j := 6) (v := .slice axrr2 rr.ns.length dxrr2) Bxrr.out rfl
      have Bxrrc7 := cell_blk (j := 7) (v := .slice axrr3 rr.ls.length dxrr3) Bxrr.out rfl
      have Bxrrl := (Array.getElem?_eq_some_iff.1 Bxrr.out).1
      have Bgc0 := cell_blk (j := 0) (v := .int .i64 r1) Bg.out rfl
      have Bgc1 := cell_blk (j := 1) (v := .int .i64 r2) Bg.out rfl
      have Bgc2 := cell_blk (j := 2) (v := .int .i64 r3) Bg.out rfl
      have Bgl := (Array.getElem?_eq_some_iff.1 Bg.out).1
      refine wp_region_rel [.pur [] ?d3c0, .pur [] ?d3c1, .rel [] [2] false (IsOw (GRoom rr)), .pur [2] ?d3c3, .pur [] ?d3c4] _ rfl rfl (by kernel_rfl) (by kernel_rfl) ?hstd3 (fun vs => ?walkd3)
      case' walkd3 =>
        (refine wpRel_pur rfl rfl (fun x => by ((go_wp2); refine relEnd_pur rfl ?_ (by repeat (first | exact Below.refl _ _ | refine below_ov _ _ ?_ (by first | omega | (simp [ov_size] <;> omega)) | refine Below.alloc ?_ (by first | omega | (simp [ov_size] <;> omega)) _ | refine Below.setCell ?_ (by first | omega | (simp [ov_size] <;> omega)) _ | refine Below.drew ?_ | refine below_drewN ?_ _)); simp only [Act.put, List.setIfInBounds_toArray, List.set_cons_succ, List.set_cons_zero]; rfl)) ?_; simp only [Act.put, List.setIfInBounds_toArray, List.set_cons_succ, List.set_cons_zero])
        (refine wpRel_pur rfl rfl (fun x => by ((go_wp2); refine relEnd_pur rfl ?_ (by repeat (first | exact Below.refl _ _ | refine below_ov _ _ ?_ (by first | omega | (simp [ov_size] <;> omega)) | refine Below.alloc ?_ (by first | omega | (simp [ov_size] <;> omega)) _ | refine Below.setCell ?_ (by first | omega | (simp [ov_size] <;> omega)) _ | refine Below.drew ?_ | refine below_drewN ?_ _)); simp only [Act.put, List.setIfInBounds_toArray, List.set_cons_succ, List.set_cons_zero]; rfl)) ?_; simp only [Act.put, List.setIfInBounds_toArray, List.set_cons_succ, List.set_cons_zero])
        refine wpRel_own rfl rfl rfl (fun x hh => ?_) ?_
        · go_wp2_with fail
          refine (toRoom_any rr (Srr.below (by repeat (first | exact Below.refl _ _ | refine below_ov _ _ ?_ (by first | omega | (simp [ov_size] <;> omega)) | refine Below.alloc ?_ (by first | omega | (simp [ov_size] <;> omega)) _ | refine Below.setCell ?_ (by first | omega | (simp [ov_size] <;> omega)) _ | refine Below.drew ?_ | refine below_drewN ?_ _))) hsrr).mono ?_
          rintro e w7 ⟨a71, d71, a72, d72, a73, d73, rfl, Q7, hb7⟩
          go_wp2
          refine relEnd_ow rfl rfl ?_ hb7 ⟨a71, d71, a72, d72, a73, d73, rfl, Q7.weak (by rw [ov_size]; omega)⟩
          (simp only [Act.put, List.setIfInBounds_toArray, List.set_cons_succ, List.set_cons_zero] <;> rfl)
        simp only [Act.put, List.setIfInBounds_toArray, List.set_cons_succ, List.set_cons_zero]
        (refine wpRel_purn rfl rfl (fun x hh => by ((obtain ⟨ao21, do21, ao22, do22, ao23, do23, f2, Qo2⟩ := isOw_at (hh 2 (by simp)) rfl; simp only [f2]); (go_wp2_with (first | (go_at_call 18; refine (calls_ov (eqRoom_same (by exact (Xxrr.below (by repeat (first | exact Below.refl _ _ | refine below_ov _ _ ?_ (by first | omega | (simp [ov_size] <;> omega)) | refine Below.alloc ?_ (by first | omega | (simp [ov_size] <;> omega)) _ | refine Below.setCell ?_ (by first | omega | (simp [ov_size] <;> omega)) _ | refine Below.drew ?_ | refine below_drewN ?_ _))).rm) (by first | exact (Qo2.below (by repeat (first | exact Below.refl _ _ | refine below_ov _ _ ?_ (by first | omega | (simp [ov_size] <;> omega)) | refine Below.alloc ?_ (by first | omega | (simp [ov_size] <;> omega)) _ | refine Below.setCell ?_ (by first | omega | (simp [ov_size] <;> omega)) _ | refine Below.drew ?_ | refine below_drewN ?_ _))).rm | exact Qo2.rm) hsrr)).mono ?_; rintro e w' ⟨rfl, x, rfl⟩))); refine relEnd_pur rfl ?_ (by repeat (first | exact Below.refl _ _ | refine below_ov _ _ ?_ (by first | omega | (simp [ov_size] <;> omega)) | refine Below.alloc ?_ (by first | omega | (simp [ov_size] <;> omega)) _ | refine Below.setCell ?_ (by first | omega | (simp [ov_size] <;> omega)) _ | refine Below.drew ?_ | refine below_drewN ?_ _)); simp only [Act.put, List.setIfInBounds_toArray, List.set_cons_succ, List.set_cons_zero]; rfl)) ?_; simp only [Act.put, List.setIfInBounds_toArray, List.set_cons_succ, List.set_cons_zero])
        (refine wpRel_pur rfl rfl (fun x => by ((go_wp2); refine relEnd_pur rfl ?_ (by repeat (first | exact Below.refl _ _ | refine below_ov _ _ ?_ (by first | omega | (simp [ov_size] <;> omega)) | refine Below.alloc ?_ (by first | omega | (simp [ov_size] <;> omega)) _ | refine Below.setCell ?_ (by first | omega | (simp [ov_size] <;> omega)) _ | refine Below.drew ?_ | refine below_drewN ?_ _)); simp only [Act.put, List.setIfInBounds_toArray, List.set_cons_succ, List.set_cons_zero]; rfl)) ?_; simp only [Act.put, List.setIfInBounds_toArray, List.set_cons_succ, List.set_cons_zero])
        refine wpRelE_nilB0 (fun W6 K hh => ?_)
        clear hh
        clear Brrc0 Brrc1 Brrc2 Brrc3 Brrc4 Brrc5 Brrc6 Brrc7 Bx1c0 Bx1c1 Bx1c2 Bn1c0 Bn1c1 Bx2c0 Bx2c1 Bx2c2 Bwc0 Bwc1 Bwc2 Bxrrc0 Bxrrc1 Bxrrc2 Bxrrc3 Bxrrc4 Bxrrc5 Bxrrc6 Bxrrc7 Bgc0 Bgc1 Bgc2 Brrl Bx1l Bn1l Bx2l Bwl Bxrrl Bgl
        replace T := T.trans (K.mono T.size)
        replace Brr := box_below Brr K
        replace Bx1 := box_below Bx1 K
        replace Bn1 := box_below Bn1 K
        replace Bx2 := box_below Bx2 K
        replace Bw := box_below Bw K
        replace Bxrr := box_below Bxrr K
        replace Bg := box_below Bg K
        replace Xxrr := Xxrr.below K
        clear K Srr
        have Srr := Rrr.below (TV.trans (T.mono s0))
        have Brrc0 := cell_blk (j := 0) (v := .slice Arr1 rr.m.length crr1) Brr.out rfl
        have Brrc1 := cell_blk (j := 1) (v := .int .i64 rr.q) Brr.out rfl
        have Brrc2 := cell_blk (j := 2) (v := .int .i64 rr.bx) Brr.out rfl
        have Brrc3 := cell_blk (j := 3) (v := .int .i64 rr.by_) Brr.out rfl
        have Brrc4 := cell_blk (j := 4) (v := .int .i64 rr.lo) Brr.out rfl
        have Brrc5 := cell_blk (j := 5) (v := .int .i64 rr.hi) Brr.out rfl
        have Brrc6 := cell_blk (j := 6) (v := .slice Arr2 rr.ns.length crr2) Brr.out rfl
        have Brrc7 := cell_blk (j := 7) (v := .slice Arr3 rr.ls.length crr3) Brr.out rfl
        have Brrl := (Array.getElem?_eq_some_iff.1 Brr.out).1
        have Bx1c0 := cell_blk (j := 0) (v := .int .i64 x1) Bx1.out rfl
        have Bx1c1 := cell_blk (j := 1) (v := .int .i64 y1) Bx1.out rfl
        have Bx1c2 := cell_blk (j := 2) (v := .int .i64 e1) Bx1.out rfl
        have Bx1l := (Array.getElem?_eq_some_iff.1 Bx1.out).1
        have Bn1c0 := cell_blk (j := 0) (v := .int .i64 n1) Bn1.out rfl
        have Bn1c1 := cell_blk (j := 1) (v := .int .i64 d1) Bn1.out rfl
        have Bn1l := (Array.getElem?_eq_some_iff.1 Bn1.out).1
        have Bx2c0 := cell_blk (j := 0) (v := .int .i64 x2) Bx2.out rfl
        have Bx2c1 := cell_blk (j := 1) (v := .int .i64 y2) Bx2.out rfl
        have Bx2c2 := cell_blk (j := 2) (v := .int .i64 e2) Bx2.out rfl
        have Bx2l := (Array.getElem?_eq_some_iff.1 Bx2.out).1
        have Bwc0 := cell_blk (j := 0) (v := .int .i64 r1) Bw.out rfl
        have Bwc1 := cell_blk (j := 1) (v := .int .i64 r2) Bw.out rfl
        have Bwc2 := cell_blk (j := 2) (v := .int .i64 r3) Bw.out rfl
        have Bwl := (Array.getElem?_eq_some_iff.1 Bw.out).1
        have Bxrrc0 := cell_blk (j := 0) (v := .slice (some ⟨axrr1, 0, none⟩) rr.m.length dxrr1) Bxrr.out rfl
        have Bxrrc1 := cell_blk (j := 1) (v := .int .i64 rr.q) Bxrr.out rfl
        have Bxrrc2 := cell_blk (j := 2) (v := .int .i64 rr.bx) Bxrr.out rfl
        have Bxrrc3 := cell_blk (j := 3) (v := .int .i64 rr.by_) Bxrr.out rfl
        have Bxrrc4 := cell_blk (j := 4) (v := .int .i64 rr.lo) Bxrr.out rfl
        have Bxrrc5 := cell_blk (j := 5) (v := .int .i64 rr.hi) Bxrr.out rfl
        have Bxrrc6 := cell_blk (j := 6) (v := .slice axrr2 rr.ns.length dxrr2) Bxrr.out rfl
        have Bxrrc7 := cell_blk (j := 7) (v := .slice axrr3 rr.ls.length dxrr3) Bxrr.out rfl
        have Bxrrl := (Array.getElem?_eq_some_iff.1 Bxrr.out).1
        have Bgc0 := cell_blk (j := 0) (v := .int .i64 r1) Bg.out rfl
        have Bgc1 := cell_blk (j := 1) (v := .int .i64 r2) Bg.out rfl
        have Bgc2 := cell_blk (j := 2) (v := .int .i64 r3) Bg.out rfl
        have Bgl := (Array.getElem?_eq_some_iff.1 Bg.out).1
        go_wp2
        go_ret
        exact ⟨rfl, (by repeat (first | exact TV.trans (T.mono s0) | refine below_ov _ _ ?_ (by first | omega | (simp [ov_size] <;> omega)) | refine Below.alloc ?_ (by first | omega | (simp [ov_size] <;> omega)) _ | refine Below.setCell ?_ (by first | omega | (simp [ov_size] <;> omega)) _ | refine Below.drew ?_ | refine below_drewN ?_ _))⟩
      case' hstd3 => exact (by repeat (first | exact all_nil | refine all_cons trivial ?_ | refine all_cons isAl_stable ?_ | refine all_cons isSt_stable ?_ | refine all_cons isStB_stable ?_ | refine all_cons (isOw_stable (by assumption)) ?_))
    case' hstd2 => exact (by repeat (first | exact all_nil | refine all_cons trivial ?_ | refine all_cons isAl_stable ?_ | refine all_cons isSt_stable ?_ | refine all_cons isStB_stable ?_ | refine all_cons (isOw_stable (by assumption)) ?_))
  case' hstd1 => exact (by repeat (first | exact all_nil | refine all_cons trivial ?_ | refine all_cons isAl_stable ?_ | refine all_cons isSt_stable ?_ | refine all_cons isStB_stable ?_ | refine all_cons (isOw_stable (by assumption)) ?_))
set_option maxRecDepth 100000 in
theorem FnExactNextSpot_lifted (os : Os) (started : os.Started) (H : Type) (enc : TypeId × Value → H) :
    ReturnsInHanded {} Try.checked os 6 .any (Rows.fnExactNextSpotSpec.pre6 enc Try.prog Try.f6 Rows.fnExactNextSpotRow.domain false) (Rows.fnExactNextSpotSpec.post enc Try.prog Try.f6 false true false false) := by
  refine returnsInHanded_of_change (C := Try.checked) own started (by kernel_rfl) Try.func6
    (ChangeSpec.witness6 (enc := enc) (C := Try.checked) false ⟨#[], #[.agg #[.slice none 0 0, .int .i64 0, .int .i64 0, .int .i64 0, .int .i64 0, .int .i64 0, .slice none 0 0, .slice none 0 0], .agg #[.int .i64 0, .int .i64 0, .int .i64 0], .agg #[.int .i64 0, .int .i64 0], .agg #[.int .i64 0, .int .i64 0, .int .i64 0]], []⟩ 8 (by kernel_rfl) (by kernel_rfl) (by kernel_rfl) (by kernel_rfl)) ?_
  intro W base args ds gs before hval0 hW hcnd _
  have hval : ∀ (j : Nat) t v, Try.f6.params[j]? = some t → args[j]? = some v → Value.okWide Try.prog W .any base t v := hval0
  have hW' := hW
  obtain ⟨p, q, hA0, hV, rfl, hfz, hnd⟩ := hW
  have hA : DataW.TrodAll enc Try.prog W 0 (fun _ => true) true Try.f6.params.toList args.toList ds p := hA0
  rw [Try.params6] at hA hval
  obtain ⟨v0, vs0, d0, ds0, p0, q0, hargs0, rfl, rfl, h0, r0⟩ := trodAll_cons hA
  obtain ⟨v1, vs1, d1, ds1, p1, q1, hargs1, rfl, rfl, h1, r1⟩ := trodAll_cons r0
  obtain ⟨v2, vs2, d2, ds2, p2, q2, hargs2, rfl, rfl, h2, r2⟩ := trodAll_cons r1
  obtain ⟨v3, vs3, d3, ds3, p3, q3, hargs3, rfl, rfl, h3, r3⟩ := trodAll_cons r2
  obtain ⟨rfl, rfl, rfl⟩ := trodAll_nil r3
  obtain rfl : args = #[v0, v1, v2, v3] := by cases args; simp_all
  obtain ⟨rfl, rfl⟩ := trodVars_none hV
  have k0 := h0
  have lt0 : ∀ x ∈ p0, x.block < W.heap.size := by obtain ⟨m, hm⟩ := k0; exact DataW.trod_lt m _ _ _ hm
  have k1 := h1
  have lt1 : ∀ x ∈ p1, x.block < W.heap.size := by obtain ⟨m, hm⟩ := k1; exact DataW.trod_lt m _ _ _ hm
  have k2 := h2
  have lt2 : ∀ x ∈ p2, x.block < W.heap.size := by obtain ⟨m, hm⟩ := k2; exact DataW.trod_lt m _ _ _ hm
  have k3 := h3
  have lt3 : ∀ x ∈ p3, x.block < W.heap.size := by obtain ⟨m, hm⟩ := k3; exact DataW.trod_lt m _ _ _ hm
  have hv0 := hval 0 27 v0 rfl rfl
  have hv1 := hval 1 53 v1 rfl rfl
  have hv2 := hval 2 29 v2 rfl rfl
  have hv3 := hval 3 53 v3 rfl rfl
  obtain ⟨r0, A01, A02, A03, c01, c02, c03, rfl, RR0, hlen0⟩ := open_room hv0 h0
  obtain ⟨x1, y1, d1, rfl, bx1, bY1, bd1⟩ := open_spot hv1 h1
  obtain ⟨x2, d2, rfl, bx2, bd2⟩ := open_ratio hv2 h2
  obtain ⟨x3, y3, d3, rfl, bx3, bY3, bd3⟩ := open_spot hv3 h3
  clear hA0 hval0
  refine (law35_any W RR0 hlen0 bx1 bY1 bd1 bx2 bd2 bx3 bY3 bd3).mono fun e W' ⟨he, bel⟩ => ?_
  subst he
  exact ⟨_, rfl, _, _, _, [], _, [], hW', trodAll_mk1 (shut_bool Try.underlying4 _), (trodAll_cons_mk (Below.trod laidOut (by kernel_rfl) (of_decide_eq_true (by kernel_rfl)) k0 bel lt0) (trodAll_cons_mk (Below.trod laidOut (by kernel_rfl) (of_decide_eq_true (by kernel_rfl)) k1 bel lt1) (trodAll_cons_mk (Below.trod laidOut (by kernel_rfl) (of_decide_eq_true (by kernel_rfl)) k2 bel lt2) (trodAll_cons_mk (Below.trod laidOut (by kernel_rfl) (of_decide_eq_true (by kernel_rfl)) k3 bel lt3) trodAll_mk0)))), rfl, bel.frame _, fun h => by cases h⟩

theorem FnExactNextSpot_holds : Rows.FnExactNextSpotSaid :=
  OpenClaim.holds_of_wide 6 Try.f6 rfl rfl rfl rfl rfl rfl rfl ⟨rfl, rfl, rfl, rfl, rfl⟩ rfl rfl rfl rfl rfl (by kernel_rfl) Try.func6 (by kernel_rfl)
    (of_decide_eq_true (by kernel_rfl)) (by unfold Func.isWrapper; first | (rw [if_pos (by decide +kernel)]; kernel_rfl) | (rw [if_neg (by decide +kernel)]; exact ⟨rfl, rfl⟩))
    (fun os started H enc _ => FnExactNextSpot_lifted os started H enc)
#print axioms FnExactNextSpot_holds

end Go.Proofs.Ytgdleimdenbnlaa
