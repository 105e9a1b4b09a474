/- FnExactSameRooms returns true for every argument, and leaves it as it was. No condition. -/
import Derived.Test.YtgdleimdenbnlaaKy
set_option linter.unusedVariables false
set_option linter.unusedSimpArgs false
set_option linter.unusedSectionVars false
namespace Go.Proofs.Ytgdleimdenbnlaa
open Go.ChangeShapes Go.WideShapes Go.ChangeAt Go.RowKit Go.Joins

set_option maxRecDepth 100000 in
set_option maxHeartbeats 8000000 in
theorem law06_any {rr : RoomV} {Arr1 Arr2 Arr3 : Option Addr} {crr1 crr2 crr3 : Nat} {tt : RoomV} {Att1 Att2 Att3 : Option Addr} {ctt1 ctt2 ctt3 : Nat} (w : World) (Rrr : RLM w rr Arr1 Arr2 Arr3) (hlrr : rr.InL) (Rtt : RLM w tt Att1 Att2 Att3) (hltt : tt.InL) :
    Calls Try.prog 12 #[.agg #[.slice Arr1 rr.m.length crr1, .int .i64 rr.q, .int .i64 rr.bx, .int .i64 rr.by_, .int .i64 rr.lo, .int .i64 rr.hi, .slice Arr2 rr.ns.length crr2, .slice Arr3 rr.ls.length crr3], .agg #[.slice Att1 tt.m.length ctt1, .int .i64 tt.q, .int .i64 tt.bx, .int .i64 tt.by_, .int .i64 tt.lo, .int .i64 tt.hi, .slice Att2 tt.ns.length ctt2, .slice Att3 tt.ls.length ctt3]] w fun e w' => e = .returned (.bool true) ∧ Below w.heap.size w w' := by
  obtain ⟨zrr, hzrr⟩ : ∃ z, szRm rr (1048576 : Int) = z := ⟨_, rfl⟩
  have HZrr := Lib.hid hzrr
  by_cases hcrr : zrr < 0
  · clear hzrr
    go_enter Try.func12, Try.ntmps12
    go_wp2_with fail
    (first | (with_reducible refine (calls_ov2 (szRoom_eq HZrr hlrr ⟨by omega, by omega⟩)).mono ?_) | refine (calls_ov (szRoom_eq HZrr hlrr ⟨by omega, by omega⟩)).mono ?_)
    rintro e w' ⟨rfl, x, rfl⟩
    go_wp2_with fail
    go_ret
    exact ⟨rfl, (by repeat (first | exact Below.refl _ _ | refine below_ov _ _ ?_ (by first | omega | (simp [ov_size] <;> omega)) | refine Below.alloc ?_ (by first | omega | (simp [ov_size] <;> omega)) _ | refine Below.setCell ?_ (by first | omega | (simp [ov_size] <;> omega)) _ | refine Below.drew ?_ | refine below_drewN ?_ _))⟩
  have hmrr := szRm_bd hzrr (by omega) (by omega)
  have hmmrr := hmrr.1
  have hmnrr := hmrr.2.1
  have hmlrr := hmrr.2.2.1
  have hzbrr := hmrr.2.2.2
  have hsrr : rr.Short := ⟨hmmrr, hmnrr, hmlrr⟩
  clear hmrr
  obtain ⟨ztt, hztt⟩ : ∃ z, szRm tt zrr = z := ⟨_, rfl⟩
  have HZtt := Lib.hid hztt
  by_cases hctt : ztt < 0
  · clear hzrr hztt
    go_enter Try.func12, Try.ntmps12
    go_wp2_with fail
    (first | (with_reducible refine (calls_ov2 (szRoom_eq HZrr hlrr ⟨by omega, by omega⟩)).mono ?_) | refine (calls_ov (szRoom_eq HZrr hlrr ⟨by omega, by omega⟩)).mono ?_)
    rintro e w' ⟨rfl, x, rfl⟩
    go_wp2_with fail
    (first | (with_reducible refine (calls_ov2 (szRoom_eq HZtt hltt ⟨by omega, by omega⟩)).mono ?_) | refine (calls_ov (szRoom_eq HZtt hltt ⟨by omega, by omega⟩)).mono ?_)
    rintro e w' ⟨rfl, x, rfl⟩
    go_wp2_with fail
    go_ret
    exact ⟨rfl, (by repeat (first | exact Below.refl _ _ | refine below_ov _ _ ?_ (by first | omega | (simp [ov_size] <;> omega)) | refine Below.alloc ?_ (by first | omega | (simp [ov_size] <;> omega)) _ | refine Below.setCell ?_ (by first | omega | (simp [ov_size] <;> omega)) _ | refine Below.drew ?_ | refine below_drewN ?_ _))⟩
  have hmtt := szRm_bd hztt (by omega) (by omega)
  have hmmtt := hmtt.1
  have hmntt := hmtt.2.1
  have hmltt := hmtt.2.2.1
  have hzbtt := hmtt.2.2.2
  have hstt : tt.Short := ⟨hmmtt, hmntt, hmltt⟩
  clear hmtt
  obtain ⟨ok, hr⟩ : ∃ r, sameRoomR rr tt = r := ⟨_, rfl⟩
  have HR := Lib.hid hr
  have ORrr0 := owned_room (T := 34) (by decide) (by decide) rr
  have ORrr1 := owned_room (T := 36) (by decide) (by decide) rr
  have ORtt0 := owned_room (T := 34) (by decide) (by decide) tt
  have ORtt1 := owned_room (T := 36) (by decide) (by decide) tt
  clear hr hzrr hztt
  have hne : (ok != ok) = false := by simp
  go_enter Try.func12, Try.ntmps12
  go_wp2_with fail
  (first | (with_reducible refine (calls_ov2 (szRoom_eq HZrr hlrr ⟨by omega, by omega⟩)).mono ?_) | refine (calls_ov (szRoom_eq HZrr hlrr ⟨by omega, by omega⟩)).mono ?_)
  rintro e w' ⟨rfl, x, rfl⟩
  go_wp2_with fail
  (first | (with_reducible refine (calls_ov2 (szRoom_eq HZtt hltt ⟨by omega, by omega⟩)).mono ?_) | refine (calls_ov (szRoom_eq HZtt hltt ⟨by omega, by omega⟩)).mono ?_)
  rintro e w' ⟨rfl, x, rfl⟩
  go_wp2_with fail
  obtain ⟨V, hV⟩ : ∃ V, ((w.alloc (.cells #[.slice Arr1 rr.m.length crr1, .int .i64 rr.q, .int .i64 rr.bx, .int .i64 rr.by_, .int .i64 rr.lo, .int .i64 rr.hi, .slice Arr2 rr.ns.length crr2, .slice Arr3 rr.ls.length crr3] 27)).alloc (.cells #[.slice Att1 tt.m.length ctt1, .int .i64 tt.q, .int .i64 tt.bx, .int .i64 tt.by_, .int .i64 tt.lo, .int .i64 tt.hi, .slice Att2 tt.ns.length ctt2, .slice Att3 tt.ls.length ctt3] 27)) = V := ⟨_, rfl⟩
  have TV : Below w.heap.size w V := by rw [← hV]; exact (by repeat (first | exact Below.refl _ _ | refine below_ov _ _ ?_ (by first | omega | (simp [ov_size] <;> omega)) | refine Below.alloc ?_ (by first | omega | (simp [ov_size] <;> omega)) _ | refine Below.setCell ?_ (by first | omega | (simp [ov_size] <;> omega)) _ | refine Below.drew ?_ | refine below_drewN ?_ _))
  have X0 : V.heap[w.heap.size]? = some (.cells #[.slice Arr1 rr.m.length crr1, .int .i64 rr.q, .int .i64 rr.bx, .int .i64 rr.by_, .int .i64 rr.lo, .int .i64 rr.hi, .slice Arr2 rr.ns.length crr2, .slice Arr3 rr.ls.length crr3] 27 (0, 0)) := by rw [← hV]; exact ((heap_old_at (by first | (simp; done) | (simp <;> omega))).trans (heap_new_at (by simp) rfl))
  have X1 : V.heap[w.heap.size + 1]? = some (.cells #[.slice Att1 tt.m.length ctt1, .int .i64 tt.q, .int .i64 tt.bx, .int .i64 tt.by_, .int .i64 tt.lo, .int .i64 tt.hi, .slice Att2 tt.ns.length ctt2, .slice Att3 tt.ls.length ctt3] 27 (0, 0)) := by rw [← hV]; exact (heap_new_at (by simp) rfl)
  rw [hV]
  clear hV
  generalize w.heap.size + 1 = ba1 at X1 ⊢
  obtain ⟨W0, hW⟩ : ∃ W0, W0 = ov V x := ⟨_, rfl⟩
  rw [← hW]
  have T : Below V.heap.size V W0 := by rw [hW]; exact (by repeat (first | exact Below.refl _ _ | refine below_ov _ _ ?_ (by first | omega | (simp [ov_size] <;> omega)) | refine Below.alloc ?_ (by first | omega | (simp [ov_size] <;> omega)) _ | refine Below.setCell ?_ (by first | omega | (simp [ov_size] <;> omega)) _ | refine Below.drew ?_ | refine below_drewN ?_ _))
  clear hW
  have Brr := box_below (Lib.hid X0) T
  clear X0
  have Btt := box_below (Lib.hid X1) T
  clear X1
  have s0 : w.heap.size ≤ V.heap.size := TV.size
  have Srr := Rrr.below (TV.trans (T.mono s0))
  have Stt := Rtt.below (TV.trans (T.mono s0))
  have Brrc0 := cell_blk (j := 0) (v := .slice Arr1 rr.m.length crr1) Brr.out rfl
  have Brrc1 := cell_blk (j := 1) (v := .int .i64 rr.q) Brr.out rfl
  have Brrc2 := cell_blk (j := 2) (v := .int .i64 rr.bx) Brr.out rfl
  have Brrc3 := cell_blk (j := 3) (v := .int .i64 rr.by_) Brr.out rfl
  have Brrc4 := cell_blk (j := 4) (v := .int .i64 rr.lo) Brr.out rfl
  have Brrc5 := cell_blk (j := 5) (v := .int .i64 rr.hi) Brr.out rfl
  have Brrc6 := cell_blk (j := 6) (v := .slice Arr2 rr.ns.length crr2) Brr.out rfl
  have Brrc7 := cell_blk (j := 7) (v := .slice Arr3 rr.ls.length crr3) Brr.out rfl
  have Brrl := (Array.getElem?_eq_some_iff.1 Brr.out).1
  have Bttc0 := cell_blk (j := 0) (v := .slice Att1 tt.m.length ctt1) Btt.out rfl
  have Bttc1 := cell_blk (j := 1) (v := .int .i64 tt.q) Btt.out rfl
  have Bttc2 := cell_blk (j := 2) (v := .int .i64 tt.bx) Btt.out rfl
  have Bttc3 := cell_blk (j := 3) (v := .int .i64 tt.by_) Btt.out rfl
  have Bttc4 := cell_blk (j := 4) (v := .int .i64 tt.lo) Btt.out rfl
  have Bttc5 := cell_blk (j := 5) (v := .int .i64 tt.hi) Btt.out rfl
  have Bttc6 := cell_blk (j := 6) (v := .slice Att2 tt.ns.length ctt2) Btt.out rfl
  have Bttc7 := cell_blk (j := 7) (v := .slice Att3 tt.ls.length ctt3) Btt.out rfl
  have Bttl := (Array.getElem?_eq_some_iff.1 Btt.out).1
  refine wp_region_rel [.pur [] ?d1c0, .rel [] [1] false (IsOw (GRoom rr)), .pur [] ?d1c2, .rel [] [3] false (IsOw (GRoom tt)), .pur [1, 3] ?d1c4, .pur [] ?d1c5] _ rfl rfl (by kernel_rfl) (by kernel_rfl) ?hstd1 (fun vs => ?walkd1)
  case' walkd1 =>
    (refine wpRel_pur rfl rfl (fun x => by ((go_wp2); refine relEnd_pur rfl ?_ (by repeat (first | exact Below.refl _ _ | refine below_ov _ _ ?_ (by first | omega | (simp [ov_size] <;> omega)) | refine Below.alloc ?_ (by first | omega | (simp [ov_size] <;> omega)) _ | refine Below.setCell ?_ (by first | omega | (simp [ov_size] <;> omega)) _ | refine Below.drew ?_ | refine below_drewN ?_ _)); simp only [Act.put, List.setIfInBounds_toArray, List.set_cons_succ, List.set_cons_zero]; rfl)) ?_; simp only [Act.put, List.setIfInBounds_toArray, List.set_cons_succ, List.set_cons_zero])
    refine wpRel_own rfl rfl rfl (fun x hh => ?_) ?_
    · go_wp2_with fail
      refine (toRoom_any rr (Srr.below (by repeat (first | exact Below.refl _ _ | refine below_ov _ _ ?_ (by first | omega | (simp [ov_size] <;> omega)) | refine Below.alloc ?_ (by first | omega | (simp [ov_size] <;> omega)) _ | refine Below.setCell ?_ (by first | omega | (simp [ov_size] <;> omega)) _ | refine Below.drew ?_ | refine below_drewN ?_ _))) hsrr).mono ?_
      rintro e w7 ⟨a71, d71, a72, d72, a73, d73, rfl, Q7, hb7⟩
      go_wp2
      refine relEnd_ow rfl rfl ?_ hb7 ⟨a71, d71, a72, d72, a73, d73, rfl, Q7.weak (by rw [ov_size]; omega)⟩
      (simp only [Act.put, List.setIfInBounds_toArray, List.set_cons_succ, List.set_cons_zero] <;> rfl)
    simp only [Act.put, List.setIfInBounds_toArray, List.set_cons_succ, List.set_cons_zero]
    (refine wpRel_pur rfl rfl (fun x => by ((go_wp2); refine relEnd_pur rfl ?_ (by repeat (first | exact Below.refl _ _ | refine below_ov _ _ ?_ (by first | omega | (simp [ov_size] <;> omega)) | refine Below.alloc ?_ (by first | omega | (simp [ov_size] <;> omega)) _ | refine Below.setCell ?_ (by first | omega | (simp [ov_size] <;> omega)) _ | refine Below.drew ?_ | refine below_drewN ?_ _)); simp only [Act.put, List.setIfInBounds_toArray, List.set_cons_succ, List.set_cons_zero]; rfl)) ?_; simp only [Act.put, List.setIfInBounds_toArray, List.set_cons_succ, List.set_cons_zero])
    refine wpRel_own rfl rfl rfl (fun x hh => ?_) ?_
    · go_wp2_with fail
      refine (toRoom_any tt (Stt.below (by repeat (first | exact Below.refl _ _ | refine below_ov _ _ ?_ (by first | omega | (simp [ov_size] <;> omega)) | refine Below.alloc ?_ (by first | omega | (simp [ov_size] <;> omega)) _ | refine Below.setCell ?_ (by first | omega | (simp [ov_size] <;> omega)) _ | refine Below.drew ?_ | refine below_drewN ?_ _))) hstt).mono ?_
      rintro e w7 ⟨a71, d71, a72, d72, a73, d73, rfl, Q7, hb7⟩
      go_wp2
      refine relEnd_ow rfl rfl ?_ hb7 ⟨a71, d71, a72, d72, a73, d73, rfl, Q7.weak (by rw [ov_size]; omega)⟩
      (simp only [Act.put, List.setIfInBounds_toArray, List.set_cons_succ, List.set_cons_zero] <;> rfl)
    simp only [Act.put, List.setIfInBounds_toArray, List.set_cons_succ, List.set_cons_zero]
    (refine wpRel_purn rfl rfl (fun x hh => by ((obtain ⟨ao11, do11, ao12, do12, ao13, do13, f1, Qo1⟩ := isOw_at (hh 1 (by simp)) rfl; simp only [f1]; obtain ⟨ao31, do31, ao32, do32, ao33, do33, f3, Qo3⟩ := isOw_at (hh 3 (by simp)) rfl; simp only [f3]); (go_wp2_with (first | (go_at_call 46; refine (calls_ov (spec_SameRooms_eq Qo1.rm hsrr Qo3.rm hstt HR)).mono ?_; rintro e w' ⟨rfl, x, rfl⟩))); refine relEnd_pur rfl ?_ (by repeat (first | exact Below.refl _ _ | refine below_ov _ _ ?_ (by first | omega | (simp [ov_size] <;> omega)) | refine Below.alloc ?_ (by first | omega | (simp [ov_size] <;> omega)) _ | refine Below.setCell ?_ (by first | omega | (simp [ov_size] <;> omega)) _ | refine Below.drew ?_ | refine below_drewN ?_ _)); simp only [Act.put, List.setIfInBounds_toArray, List.set_cons_succ, List.set_cons_zero]; rfl)) ?_; simp only [Act.put, List.setIfInBounds_toArray, List.set_cons_succ, List.set_cons_zero])
    (refine wpRel_pur rfl rfl (fun x => by ((go_wp2); refine relEnd_pur rfl ?_ (by repeat (first | exact Below.refl _ _ | refine below_ov _ _ ?_ (by first | omega | (simp [ov_size] <;> omega)) | refine Below.alloc ?_ (by first | omega | (simp [ov_size] <;> omega)) _ | refine Below.setCell ?_ (by first | omega | (simp [ov_size] <;> omega)) _ | refine Below.drew ?_ | refine below_drewN ?_ _)); simp only [Act.put, List.setIfInBounds_toArray, List.set_cons_succ, List.set_cons_zero]; rfl)) ?_; simp only [Act.put, List.setIfInBounds_toArray, List.set_cons_succ, List.set_cons_zero])
    refine wpRelE_nilB0 (fun W1 K hh => ?_)
    clear hh
    clear Brrc0 Brrc1 Brrc2 Brrc3 Brrc4 Brrc5 Brrc6 Brrc7 Bttc0 Bttc1 Bttc2 Bttc3 Bttc4 Bttc5 Bttc6 Bttc7 Brrl Bttl
    replace T := T.trans (K.mono T.size)
    replace Brr := box_below Brr K
    replace Btt := box_below Btt K
    clear K Srr Stt
    have Srr := Rrr.below (TV.trans (T.mono s0))
    have Stt := Rtt.below (TV.trans (T.mono s0))
    have Brrc0 := cell_blk (j := 0) (v := .slice Arr1 rr.m.length crr1) Brr.out rfl
    have Brrc1 := cell_blk (j := 1) (v := .int .i64 rr.q) Brr.out rfl
    have Brrc2 := cell_blk (j := 2) (v := .int .i64 rr.bx) Brr.out rfl
    have Brrc3 := cell_blk (j := 3) (v := .int .i64 rr.by_) Brr.out rfl
    have Brrc4 := cell_blk (j := 4) (v := .int .i64 rr.lo) Brr.out rfl
    have Brrc5 := cell_blk (j := 5) (v := .int .i64 rr.hi) Brr.out rfl
    have Brrc6 := cell_blk (j := 6) (v := .slice Arr2 rr.ns.length crr2) Brr.out rfl
    have Brrc7 := cell_blk (j := 7) (v := .slice Arr3 rr.ls.length crr3) Brr.out rfl
    have Brrl := (Array.getElem?_eq_some_iff.1 Brr.out).1
    have Bttc0 := cell_blk (j := 0) (v := .slice Att1 tt.m.length ctt1) Btt.out rfl
    have Bttc1 := cell_blk (j := 1) (v := .int .i64 tt.q) Btt.out rfl
    have Bttc2 := cell_blk (j := 2) (v := .int .i64 tt.bx) Btt.out rfl
    have Bttc3 := cell_blk (j := 3) (v := .int .i64 tt.by_) Btt.out rfl
    have Bttc4 := cell_blk (j := 4) (v := .int .i64 tt.lo) Btt.out rfl
    have Bttc5 := cell_blk (j := 5) (v := .int .i64 tt.hi) Btt.out rfl
    have Bttc6 := cell_blk (j := 6) (v := .slice Att2 tt.ns.length ctt2) Btt.out rfl
    have Bttc7 := cell_blk (j := 7) (v := .slice Att3 tt.ls.length ctt3) Btt.out rfl
    have Bttl := (Array.getElem?_eq_some_iff.1 Btt.out).1
    go_wp2_with fail
    clear Brrc0 Brrc1 Brrc2 Brrc3 Brrc4 Brrc5 Brrc6 Brrc7 Bttc0 Bttc1 Bttc2 Bttc3 Bttc4 Bttc5 Bttc6 Bttc7 Brrl Bttl
    refine (toRoom_any rr (Srr.below (by repeat (first | exact Below.refl _ _ | refine below_ov _ _ ?_ (by first | omega | (simp [ov_size] <;> omega)) | refine Below.alloc ?_ (by first | omega | (simp [ov_size] <;> omega)) _ | refine Below.setCell ?_ (by first | omega | (simp [ov_size] <;> omega)) _ | refine Below.drew ?_ | refine below_drewN ?_ _))) hsrr).mono ?_
    rintro e W2 ⟨axrr1, dxrr1, axrr2, dxrr2, axrr3, dxrr3, rfl, Xxrr, hb⟩
    have K : Below W1.heap.size W1 W2 := Below.trans (by repeat (first | exact Below.refl _ _ | refine below_ov _ _ ?_ (by first | omega | (simp [ov_size] <;> omega)) | refine Below.alloc ?_ (by first | omega | (simp [ov_size] <;> omega)) _ | refine Below.setCell ?_ (by first | omega | (simp [ov_size] <;> omega)) _ | refine Below.drew ?_ | refine below_drewN ?_ _)) (hb.mono (by first | exact Nat.le_refl _ | simp [ov_size]))
    replace Xxrr := Xxrr.weak (B' := V.heap.size) (by have := T.size; simp [ov_size]; omega)
    clear hb
    replace T := T.trans (K.mono T.size)
    replace Brr := box_below Brr K
    replace Btt := box_below Btt K
    clear K Srr Stt
    have Srr := Rrr.below (TV.trans (T.mono s0))
    have Stt := Rtt.below (TV.trans (T.mono s0))
    have Brrc0 := cell_blk (j := 0) (v := .slice Arr1 rr.m.length crr1) Brr.out rfl
    have Brrc1 := cell_blk (j := 1) (v := .int .i64 rr.q) Brr.out rfl
    have Brrc2 := cell_blk (j := 2) (v := .int .i64 rr.bx) Brr.out rfl
    have Brrc3 := cell_blk (j := 3) (v := .int .i64 rr.by_) Brr.out rfl
    have Brrc4 := cell_blk (j := 4) (v := .int .i64 rr.lo) Brr.out rfl
    have Brrc5 := cell_blk (j := 5) (v := .int .i64 rr.hi) Brr.out rfl
    have Brrc6 := cell_blk (j := 6) (v := .slice Arr2 rr.ns.length crr2) Brr.out rfl
    have Brrc7 := cell_blk (j := 7) (v := .slice Arr3 rr.ls.length crr3) Brr.out rfl
    have Brrl := (Array.getElem?_eq_some_iff.1 Brr.out).1
    have Bttc0 := cell_blk (j := 0) (v := .slice Att1 tt.m.length ctt1) Btt.out rfl
    have Bttc1 := cell_blk (j := 1) (v := .int .i64 tt.q) Btt.out rfl
    have Bttc2 := cell_blk (j := 2) (v := .int .i64 tt.bx) Btt.out rfl
    have Bttc3 := cell_blk (j := 3) (v := .int .i64 tt.by_) Btt.out rfl
    have Bttc4 := cell_blk (j := 4) (v := .int .i64 tt.lo) Btt.out rfl
    have Bttc5 := cell_blk (j := 5) (v := .int .i64 tt.hi) Btt.out rfl
    have Bttc6 := cell_blk (j := 6) (v := .slice Att2 tt.ns.length ctt2) Btt.out rfl
    have Bttc7 := cell_blk (j := 7) (v := .slice Att3 tt.ls.length ctt3) Btt.out rfl
    have Bttl := (Array.getElem?_eq_some_iff.1 Btt.out).1
    go_wp2_with fail
    clear Brrc0 Brrc1 Brrc2 Brrc3 Brrc4 Brrc5 Brrc6 Brrc7 Bttc0 Bttc1 Bttc2 Bttc3 Bttc4 Bttc5 Bttc6 Bttc7 Brrl Bttl
    obtain ⟨bxrr, hbx⟩ : ∃ b, b = W2.heap.size := ⟨_, rfl⟩
    rw [← hbx]
    obtain ⟨W3, hW⟩ : ∃ W, W = W2.alloc (.cells #[.slice (some ⟨axrr1, 0, none⟩) rr.m.length dxrr1, .int .i64 rr.q, .int .i64 rr.bx, .int .i64 rr.by_, .int .i64 rr.lo, .int .i64 rr.hi, .slice axrr2 rr.ns.length dxrr2, .slice axrr3 rr.ls.length dxrr3] 36) := ⟨_, rfl⟩
    rw [← hW]
    have K : Below W2.heap.size W2 W3 := by rw [hW]; exact (by repeat (first | exact Below.refl _ _ | refine below_ov _ _ ?_ (by first | omega | (simp [ov_size] <;> omega)) | refine Below.alloc ?_ (by first | omega | (simp [ov_size] <;> omega)) _ | refine Below.setCell ?_ (by first | omega | (simp [ov_size] <;> omega)) _ | refine Below.drew ?_ | refine below_drewN ?_ _))
    have Bxrr := Lib.hid (show W3.heap[bxrr]? = some (.cells #[.slice (some ⟨axrr1, 0, none⟩) rr.m.length dxrr1, .int .i64 rr.q, .int .i64 rr.bx, .int .i64 rr.by_, .int .i64 rr.lo, .int .i64 rr.hi, .slice axrr2 rr.ns.length dxrr2, .slice axrr3 rr.ls.length dxrr3] 36 (0, 0)) by rw [hW, hbx]; exact heap_alloc_new _ _)
    clear hW hbx
    replace T := T.trans (K.mono T.size)
    replace Brr := box_below Brr K
    replace Btt := box_below Btt K
    replace Xxrr := Xxrr.below K
    clear K Srr Stt
    have Srr := Rrr.below (TV.trans (T.mono s0))
    have Stt := Rtt.below (TV.trans (T.mono s0))
    refine (toRoom_any tt (Stt.below (by repeat (first | exact Below.refl _ _ | refine below_ov _ _ ?_ (by first | omega | (simp [ov_size] <;> omega)) | refine Below.alloc ?_ (by first | omega | (simp [ov_size] <;> omega)) _ | refine Below.setCell ?_ (by first | omega | (simp [ov_size] <;> omega)) _ | refine Below.drew ?_ | refine below_drewN ?_ _))) hstt).mono ?_
    rintro e W4 ⟨axtt1, dxtt1, axtt2, dxtt2, axtt3, dxtt3, rfl, Xxtt, hb⟩
    have K : Below W3.heap.size W3 W4 := Below.trans (by repeat (first | exact Below.refl _ _ | refine below_ov _ _ ?_ (by first | omega | (simp [ov_size] <;> omega)) | refine Below.alloc ?_ (by first | omega | (simp [ov_size] <;> omega)) _ | refine Below.setCell ?_ (by first | omega | (simp [ov_size] <;> omega)) _ | refine Below.drew ?_ | refine below_drewN ?_ _)) (hb.mono (by first | exact Nat.le_refl _ | simp [ov_size]))
    replace Xxtt := Xxtt.weak (B' := V.heap.size) (by have := T.size; simp [ov_size]; omega)
    clear hb
    replace T := T.trans (K.mono T.size)
    replace Brr := box_below Brr K
    replace Btt := box_below Btt K
    replace Bxrr := box_below Bxrr K
    replace Xxrr := Xxrr.below K
    clear K Srr Stt
    have Srr := Rrr.below (TV.trans (T.mono s0))
    have Stt := Rtt.below (TV.trans (T.mono s0))
    have Brrc0 := cell_blk (j := 0) (v := .slice Arr1 rr.m.length crr1) Brr.out rfl
    have Brrc1 := cell_blk (j := 1) (v := .int .i64 rr.q) Brr.out rfl
    have Brrc2 := cell_blk (j := 2) (v := .int .i64 rr.bx) Brr.out rfl
    have Brrc3 := cell_blk (j := 3) (v := .int .i64 rr.by_) Brr.out rfl
    have Brrc4 := cell_blk (j := 4) (v := .int .i64 rr.lo) Brr.out rfl
    have Brrc5 := cell_blk (j := 5) (v := .int .i64 rr.hi) Brr.out rfl
    have Brrc6 := cell_blk (j := 6) (v := .slice Arr2 rr.ns.length crr2) Brr.out rfl
    have Brrc7 := cell_blk (j := 7) (v := .slice Arr3 rr.ls.length crr3) Brr.out rfl
    have Brrl := (Array.getElem?_eq_some_iff.1 Brr.out).1
    have Bttc0 := cell_blk (j := 0) (v := .slice Att1 tt.m.length ctt1) Btt.out rfl
    have Bttc1 := cell_blk (j := 1) (v := .int .i64 tt.q) Btt.out rfl
    have Bttc2 := cell_blk (j := 2) (v := .int .i64 tt.bx) Btt.out rfl
    have Bttc3 := cell_blk (j := 3) (v := .int .i64 tt.by_) Btt.out rfl
    have Bttc4 := cell_blk (j := 4) (v := .int .i64 tt.lo) Btt.out rfl
    have Bttc5 := cell_blk (j := 5) (v := .int .i64 tt.hi) Btt.out rfl
    have Bttc6 := cell_blk (j := 6) (v := .slice Att2 tt.ns.length ctt2) Btt.out rfl
    have Bttc7 := cell_blk (j := 7) (v := .slice Att3 tt.ls.length ctt3) Btt.out rfl
    have Bttl := (Array.getElem?_eq_some_iff.1 Btt.out).1
    have Bxrrc0 := cell_blk (j := 0) (v := .slice (some ⟨axrr1, 0, none⟩) rr.m.length dxrr1) Bxrr.out rfl
    have Bxrrc1 := cell_blk (j := 1) (v := .int .i64 rr.q) Bxrr.out rfl
    have Bxrrc2 := cell_blk (j := 2) (v := .int .i64 rr.bx) Bxrr.out rfl
    have Bxrrc3 := cell_blk (j := 3) (v := .int .i64 rr.by_) Bxrr.out rfl
    have Bxrrc4 := cell_blk (j := 4) (v := .int .i64 rr.lo) Bxrr.out rfl
    have Bxrrc5 := cell_blk (j := 5) (v := .int .i64 rr.hi) Bxrr.out rfl
    have Bxrrc6 := cell_blk (j := 6) (v := .slice axrr2 rr.ns.length dxrr2) Bxrr.out rfl
    have Bxrrc7 := cell_blk (j := 7) (v := .slice axrr3 rr.ls.length dxrr3) Bxrr.out rfl
    have Bxrrl := (Array.getElem?_eq_some_iff.1 Bxrr.out).1
    go_wp2_with fail
    clear Brrc0 Brrc1 Brrc2 Brrc3 Brrc4 Brrc5 Brrc6 Brrc7 Bttc0 Bttc1 Bttc2 Bttc3 Bttc4 Bttc5 Bttc6 Bttc7 Bxrrc0 Bxrrc1 Bxrrc2 Bxrrc3 Bxrrc4 Bxrrc5 Bxrrc6 Bxrrc7 Brrl Bttl Bxrrl
    obtain ⟨bxtt, hbx⟩ : ∃ b, b = W4.heap.size := ⟨_, rfl⟩
    rw [← hbx]
    obtain ⟨W5, hW⟩ : ∃ W, W = W4.alloc (.cells #[.slice (some ⟨axtt1, 0, none⟩) tt.m.length dxtt1, .int .i64 tt.q, .int .i64 tt.bx, .int .i64 tt.by_, .int .i64 tt.lo, .int .i64 tt.hi, .slice axtt2 tt.ns.length dxtt2, .slice axtt3 tt.ls.length dxtt3] 36) := ⟨_, rfl⟩
    rw [← hW]
    have K : Below W4.heap.size W4 W5 := by rw [hW]; exact (by repeat (first | exact Below.refl _ _ | refine below_ov _ _ ?_ (by first | omega | (simp [ov_size] <;> omega)) | refine Below.alloc ?_ (by first | omega | (simp [ov_size] <;> omega)) _ | refine Below.setCell ?_ (by first | omega | (simp [ov_size] <;> omega)) _ | refine Below.drew ?_ | refine below_drewN ?_ _))
    have Bxtt := Lib.hid (show W5.heap[bxtt]? = some (.cells #[.slice (some ⟨axtt1, 0, none⟩) tt.m.length dxtt1, .int .i64 tt.q, .int .i64 tt.bx, .int .i64 tt.by_, .int .i64 tt.lo, .int .i64 tt.hi, .slice axtt2 tt.ns.length dxtt2, .slice axtt3 tt.ls.length dxtt3] 36 (0, 0)) by rw [hW, hbx]; exact heap_alloc_new _ _)
    clear hW hbx
    replace T := T.trans (K.mono T.size)
    replace Brr := box_below Brr K
    replace Btt := box_below Btt K
    replace Bxrr := box_below Bxrr K
    replace Xxrr := Xxrr.below K
    replace Xxtt := Xxtt.below K
    clear K Srr Stt
    have Srr := Rrr.below (TV.trans (T.mono s0))
    have Stt := Rtt.below (TV.trans (T.mono s0))
    refine (calls_ov (impl_SameRooms_eq ((Xxrr.below (by repeat (first | exact Below.refl _ _ | refine below_ov _ _ ?_ (by first | omega | (simp [ov_size] <;> omega)) | refine Below.alloc ?_ (by first | omega | (simp [ov_size] <;> omega)) _ | refine Below.setCell ?_ (by first | omega | (simp [ov_size] <;> omega)) _ | refine Below.drew ?_ | refine below_drewN ?_ _))).rm) ((Xxtt.below (by repeat (first | exact Below.refl _ _ | refine below_ov _ _ ?_ (by first | omega | (simp [ov_size] <;> omega)) | refine Below.alloc ?_ (by first | omega | (simp [ov_size] <;> omega)) _ | refine Below.setCell ?_ (by first | omega | (simp [ov_size] <;> omega)) _ | refine Below.drew ?_ | refine below_drewN ?_ _))).rm) hsrr hstt HR)).mono ?_
    rintro e w' ⟨rfl, x, rfl⟩
    obtain ⟨W6, hW⟩ : ∃ W6, W6 = ov W5 x := ⟨_, rfl⟩
    rw [← hW]
    have K : Below W5.heap.size W5 W6 := by rw [hW]; exact (by repeat (first | exact Below.refl _ _ | refine below_ov _ _ ?_ (by first | omega | (simp [ov_size] <;> omega)) | refine Below.alloc ?_ (by first | omega | (simp [ov_size] <;> omega)) _ | refine Below.setCell ?_ (by first | omega | (simp [ov_size] <;> omega)) _ | refine Below.drew ?_ | refine below_drewN ?_ _))
    clear hW
    replace T := T.trans (K.mono T.size)
    replace Brr := box_below Brr K
    replace Btt := box_below Btt K
    replace Bxrr := box_below Bxrr K
    replace Bxtt := box_below Bxtt K
    replace Xxrr := Xxrr.below K
    replace Xxtt := Xxtt.below K
    clear K Srr Stt
    have Srr := Rrr.below (TV.trans (T.mono s0))
    have Stt := Rtt.below (TV.trans (T.mono s0))
    have Brrc0 := cell_blk (j := 0) (v := .slice Arr1 rr.m.length crr1) Brr.out rfl
    have Brrc1 := cell_blk (j := 1) (v := .int .i64 rr.q) Brr.out rfl
    have Brrc2 := cell_blk (j := 2) (v := .int .i64 rr.bx) Brr.out rfl
    have Brrc3 := cell_blk (j := 3) (v := .int .i64 rr.by_) Brr.out rfl
    have Brrc4 := cell_blk (j := 4) (v := .int .i64 rr.lo) Brr.out rfl
    have Brrc5 := cell_blk (j := 5) (v := .int .i64 rr.hi) Brr.out rfl
    have Brrc6 := cell_blk (j := 6) (v := .slice Arr2 rr.ns.length crr2) Brr.out rfl
    have Brrc7 := cell_blk (j := 7) (v := .slice Arr3 rr.ls.length crr3) Brr.out rfl
    have Brrl := (Array.getElem?_eq_some_iff.1 Brr.out).1
    have Bttc0 := cell_blk (j := 0) (v := .slice Att1 tt.m.length ctt1) Btt.out rfl
    have Bttc1 := cell_blk (j := 1) (v := .int .i64 tt.q) Btt.out rfl
    have Bttc2 := cell_blk (j := 2) (v := .int .i64 tt.bx) Btt.out rfl
    have Bttc3 := cell_blk (j := 3) (v := .int .i64 tt.by_) Btt.out rfl
    have Bttc4 := cell_blk (j := 4) (v := .int .i64 tt.lo) Btt.out rfl
    have Bttc5 := cell_blk (j := 5) (v := .int .i64 tt.hi) Btt.out rfl
    have Bttc6 := cell_blk (j := 6) (v := .slice Att2 tt.ns.length ctt2) Btt.out rfl
    have Bttc7 := cell_blk (j := 7) (v := .slice Att3 tt.ls.length ctt3) Btt.out rfl
    have Bttl := (Array.getElem?_eq_some_iff.1 Btt.out).1
    have Bxrrc0 := cell_blk (j := 0) (v := .slice (some ⟨axrr1, 0, none⟩) rr.m.length dxrr1) Bxrr.out rfl
    have Bxrrc1 := cell_blk (j := 1) (v := .int .i64 rr.q) Bxrr.out rfl
    have Bxrrc2 := cell_blk (j := 2) (v := .int .i64 rr.bx) Bxrr.out rfl
    have Bxrrc3 := cell_blk (j := 3) (v := .int .i64 rr.by_) Bxrr.out rfl
    have Bxrrc4 := cell_blk (j := 4) (v := .int .i64 rr.lo) Bxrr.out rfl
    have Bxrrc5 := cell_blk (j := 5) (v := .int .i64 rr.hi) Bxrr.out rfl
    have Bxrrc6 := cell_blk (j := 6) (v := .slice axrr2 rr.ns.length dxrr2) Bxrr.out rfl
    have Bxrrc7 := cell_blk (j := 7) (v := .slice axrr3 rr.ls.length dxrr3) Bxrr.out rfl
    have Bxrrl := (Array.getElem?_eq_some_iff.1 Bxrr.out).1
    have Bxttc0 := cell_blk (j := 0) (v := .slice (some ⟨axtt1, 0, none⟩) tt.m.length dxtt1) Bxtt.out rfl
    have Bxttc1 := cell_blk (j := 1) (v := .int .i64 tt.q) Bxtt.out rfl
    have Bxttc2 := cell_blk (j := 2) (v := .int .i64 tt.bx) Bxtt.out rfl
    have Bxttc3 := cell_blk (j := 3) (v := .int .i64 tt.by_) Bxtt.out rfl
    have Bxttc4 := cell_blk (j := 4) (v := .int .i64 tt.lo) Bxtt.out rfl
    have Bxttc5 := cell_blk (j := 5) (v := .int .i64 tt.hi) Bxtt.out rfl
    have Bxttc6 := cell_blk (j := 6) (v := .slice axtt2 tt.ns.length dxtt2) Bxtt.out rfl
    have Bxttc7 := cell_blk (j := 7) (v := .slice axtt3 tt.ls.length dxtt3) Bxtt.out rfl
    have Bxttl := (Array.getElem?_eq_some_iff.1 Bxtt.out).1
    go_wp2_with fail
    clear Brrc0 Brrc1 Brrc2 Brrc3 Brrc4 Brrc5 Brrc6 Brrc7 Bttc0 Bttc1 Bttc2 Bttc3 Bttc4 Bttc5 Bttc6 Bttc7 Bxrrc0 Bxrrc1 Bxrrc2 Bxrrc3 Bxrrc4 Bxrrc5 Bxrrc6 Bxrrc7 Bxttc0 Bxttc1 Bxttc2 Bxttc3 Bxttc4 Bxttc5 Bxttc6 Bxttc7 Brrl Bttl Bxrrl Bxttl
    have Brrc0 := cell_blk (j := 0) (v := .slice Arr1 rr.m.length crr1) Brr.out rfl
    have Brrc1 := cell_blk (j := 1) (v := .int .i64 rr.q) Brr.out rfl
    have Brrc2 := cell_blk (j := 2) (v := .int .i64 rr.bx) Brr.out rfl
    have Brrc3 := cell_blk (j := 3) (v := .int .i64 rr.by_) Brr.out rfl
    have Brrc4 := cell_blk (j := 4) (v := .int .i64 rr.lo) Brr.out rfl
    have Brrc5 := cell_blk (j := 5) (v := .int .i64 rr.hi) Brr.out rfl
    have Brrc6 := cell_blk (j := 6) (v := .slice Arr2 rr.ns.length crr2) Brr.out rfl
    have Brrc7 := cell_blk (j := 7) (v := .slice Arr3 rr.ls.length crr3) Brr.out rfl
    have Brrl := (Array.getElem?_eq_some_iff.1 Brr.out).1
    have Bttc0 := cell_blk (j := 0) (v := .slice Att1 tt.m.length ctt1) Btt.out rfl
    have Bttc1 := cell_blk (j := 1) (v := .int .i64 tt.q) Btt.out rfl
    have Bttc2 := cell_blk (j := 2) (v := .int .i64 tt.bx) Btt.out rfl
    have Bttc3 := cell_blk (j := 3) (v := .int .i64 tt.by_) Btt.out rfl
    have Bttc4 := cell_blk (j := 4) (v := .int .i64 tt.lo) Btt.out rfl
    have Bttc5 := cell_blk (j := 5) (v := .int .i64 tt.hi) Btt.out rfl
    have Bttc6 := cell_blk (j := 6) (v := .slice Att2 tt.ns.length ctt2) Btt.out rfl
    have Bttc7 := cell_blk (j := 7) (v := .slice Att3 tt.ls.length ctt3) Btt.out rfl
    have Bttl := (Array.getElem?_eq_some_iff.1 Btt.out).1
    have Bxrrc0 := cell_blk (j := 0) (v := .slice (some ⟨axrr1, 0, none⟩) rr.m.length dxrr1) Bxrr.out rfl
    have Bxrrc1 := cell_blk (j := 1) (v := .int .i64 rr.q) Bxrr.out rfl
    have Bxrrc2 := cell_blk (j := 2) (v := .int .i64 rr.bx) Bxrr.out rfl
    have Bxrrc3 := cell_blk (j := 3) (v := .int .i64 rr.by_) Bxrr.out rfl
    have Bxrrc4 := cell_blk (j := 4) (v := .int .i64 rr.lo) Bxrr.out rfl
    have Bxrrc5 := cell_blk (j := 5) (v := .int .i64 rr.hi) Bxrr.out rfl
    have Bxrrc6 := cell_blk (j := 6) (v := .slice axrr2 rr.ns.length dxrr2) Bxrr.out rfl
    have Bxrrc7 := cell_blk (j := 7) (v := .slice axrr3 rr.ls.length dxrr3) Bxrr.out rfl
    have Bxrrl := (Array.getElem?_eq_some_iff.1 Bxrr.out).1
    have Bxttc0 := cell_blk (j := 0) (v := .slice (some ⟨axtt1, 0, none⟩) tt.m.length dxtt1) Bxtt.out rfl
    have Bxttc1 := cell_blk (j := 1) (v := .int .i64 tt.q) Bxtt.out rfl
    have Bxttc2 := cell_blk (j := 2) (v := .int .i64 tt.bx) Bxtt.out rfl
    have Bxttc3 := cell_blk (j := 3) (v := .int .i64 tt.by_) Bxtt.out rfl
    have Bxttc4 := cell_blk (j := 4) (v := .int .i64 tt.lo) Bxtt.out rfl
    have Bxttc5 := cell_blk (j := 5) (v := .int .i64 tt.hi) Bxtt.out rfl
    have Bxttc6 := cell_blk (j := 6) (v := .slice axtt2 tt.ns.length dxtt2) Bxtt.out rfl
    have Bxttc7 := cell_blk (j := 7) (v := .slice axtt3 tt.ls.length dxtt3) Bxtt.out rfl
    have Bxttl := (Array.getElem?_eq_some_iff.1 Bxtt.out).1
    refine wp_region_rel [.pur [] ?d2c0, .pur [] ?d2c1, .rel [] [2] false (IsOw (GRoom rr)), .pur [2] ?d2c3, .pur [] ?d2c4] _ rfl rfl (by kernel_rfl) (by kernel_rfl) ?hstd2 (fun vs => ?walkd2)
    case' walkd2 =>
      (refine wpRel_pur rfl rfl (fun x => by ((go_wp2); refine relEnd_pur rfl ?_ (by repeat (first | exact Below.refl _ _ | refine below_ov _ _ ?_ (by first | omega | (simp [ov_size] <;> omega)) | refine Below.alloc ?_ (by first | omega | (simp [ov_size] <;> omega)) _ | refine Below.setCell ?_ (by first | omega | (simp [ov_size] <;> omega)) _ | refine Below.drew ?_ | refine below_drewN ?_ _)); simp only [Act.put, List.setIfInBounds_toArray, List.set_cons_succ, List.set_cons_zero]; rfl)) ?_; simp only [Act.put, List.setIfInBounds_toArray, List.set_cons_succ, List.set_cons_zero])
      (refine wpRel_pur rfl rfl (fun x => by ((go_wp2); refine relEnd_pur rfl ?_ (by repeat (first | exact Below.refl _ _ | refine below_ov _ _ ?_ (by first | omega | (simp [ov_size] <;> omega)) | refine Below.alloc ?_ (by first | omega | (simp [ov_size] <;> omega)) _ | refine Below.setCell ?_ (by first | omega | (simp [ov_size] <;> omega)) _ | refine Below.drew ?_ | refine below_drewN ?_ _)); simp only [Act.put, List.setIfInBounds_toArray, List.set_cons_succ, List.set_cons_zero]; rfl)) ?_; simp only [Act.put, List.setIfInBounds_toArray, List.set_cons_succ, List.set_cons_zero])
      refine wpRel_own rfl rfl rfl (fun x hh => ?_) ?_
      · go_wp2_with fail
        refine (toRoom_any rr (Srr.below (by repeat (first | exact Below.refl _ _ | refine below_ov _ _ ?_ (by first | omega | (simp [ov_size] <;> omega)) | refine Below.alloc ?_ (by first | omega | (simp [ov_size] <;> omega)) _ | refine Below.setCell ?_ (by first | omega | (simp [ov_size] <;> omega)) _ | refine Below.drew ?_ | refine below_drewN ?_ _))) hsrr).mono ?_
        rintro e w7 ⟨a71, d71, a72, d72, a73, d73, rfl, Q7, hb7⟩
        go_wp2
        refine relEnd_ow rfl rfl ?_ hb7 ⟨a71, d71, a72, d72, a73, d73, rfl, Q7.weak (by rw [ov_size]; omega)⟩
        (simp only [Act.put, List.setIfInBounds_toArray, List.set_cons_succ, List.set_cons_zero] <;> rfl)
      simp only [Act.put, List.setIfInBounds_toArray, List.set_cons_succ, List.set_cons_zero]
      (refine wpRel_purn rfl rfl (fun x hh => by ((obtain ⟨ao21, do21, ao22, do22, ao23, do23, f2, Qo2⟩ := isOw_at (hh 2 (by simp)) rfl; simp only [f2]); (go_wp2_with (first | (go_at_call 18; refine (calls_ov (eqRoom_same (by exact (Xxrr.below (by repeat (first | exact Below.refl _ _ | refine below_ov _ _ ?_ (by first | omega | (simp [ov_size] <;> omega)) | refine Below.alloc ?_ (by first | omega | (simp [ov_size] <;> omega)) _ | refine Below.setCell ?_ (by first | omega | (simp [ov_size] <;> omega)) _ | refine Below.drew ?_ | refine below_drewN ?_ _))).rm) (by first | exact (Qo2.below (by repeat (first | exact Below.refl _ _ | refine below_ov _ _ ?_ (by first | omega | (simp [ov_size] <;> omega)) | refine Below.alloc ?_ (by first | omega | (simp [ov_size] <;> omega)) _ | refine Below.setCell ?_ (by first | omega | (simp [ov_size] <;> omega)) _ | refine Below.drew ?_ | refine below_drewN ?_ _))).rm | exact Qo2.rm) hsrr)).mono ?_; rintro e w' ⟨rfl, x, rfl⟩))); refine relEnd_pur rfl ?_ (by repeat (first | exact Below.refl _ _ | refine below_ov _ _ ?_ (by first | omega | (simp [ov_size] <;> omega)) | refine Below.alloc ?_ (by first | omega | (simp [ov_size] <;> omega)) _ | refine Below.setCell ?_ (by first | omega | (simp [ov_size] <;> omega)) _ | refine Below.drew ?_ | refine below_drewN ?_ _)); simp only [Act.put, List.setIfInBounds_toArray, List.set_cons_succ, List.set_cons_zero]; rfl)) ?_; simp only [Act.put, List.setIfInBounds_toArray, List.set_cons_succ, List.set_cons_zero])
      (refine wpRel_pur rfl rfl (fun x => by ((go_wp2); refine relEnd_pur rfl ?_ (by repeat (first | exact Below.refl _ _ | refine below_ov _ _ ?_ (by first | omega | (simp [ov_size] <;> omega)) | refine Below.alloc ?_ (by first | omega | (simp [ov_size] <;> omega)) _ | refine Below.setCell ?_ (by first | omega | (simp [ov_size] <;> omega)) _ | refine Below.drew ?_ | refine below_drewN ?_ _)); simp only [Act.put, List.setIfInBounds_toArray, List.set_cons_succ, List.set_cons_zero]; rfl)) ?_; simp only [Act.put, List.setIfInBounds_toArray, List.set_cons_succ, List.set_cons_zero])
      refine wpRelE_nilB0 (fun W7 K hh => ?_)
      clear hh
      clear Brrc0 Brrc1 Brrc2 Brrc3 Brrc4 Brrc5 Brrc6 Brrc7 Bttc0 Bttc1 Bttc2 Bttc3 Bttc4 Bttc5 Bttc6 Bttc7 Bxrrc0 Bxrrc1 Bxrrc2 Bxrrc3 Bxrrc4 Bxrrc5 Bxrrc6 Bxrrc7 Bxttc0 Bxttc1 Bxttc2 Bxttc3 Bxttc4 Bxttc5 Bxttc6 Bxttc7 Brrl Bttl Bxrrl Bxttl
      replace T := T.trans (K.mono T.size)
      replace Brr := box_below Brr K
      replace Btt := box_below Btt K
      replace Bxrr := box_below Bxrr K
      replace Bxtt := box_below Bxtt K
      replace Xxrr := Xxrr.below K
      replace Xxtt := Xxtt.below K
      clear K Srr Stt
      have Srr := Rrr.below (TV.trans (T.mono s0))
      have Stt := Rtt.below (TV.trans (T.mono s0))
      have Brrc0 := cell_blk (j := 0) (v := .slice Arr1 rr.m.length crr1) Brr.out rfl
      have Brrc1 := cell_blk (j := 1) (v := .int .i64 rr.q) Brr.out rfl
      have Brrc2 := cell_blk (j := 2) (v := .int .i64 rr.bx) Brr.out rfl
      have Brrc3 := cell_blk (j := 3) (v := .int .i64 rr.by_) Brr.out rfl
      have Brrc4 := cell_blk (j := 4) (v := .int .i64 rr.lo) Brr.out rfl
      have Brrc5 := cell_blk (j := 5) (v := .int .i64 rr.hi) Brr.out rfl
      have Brrc6 := cell_blk (j := 6) (v := .slice Arr2 rr.ns.length crr2) Brr.out rfl
      have Brrc7 := cell_blk (j := 7) (v := .slice Arr3 rr.ls.length crr3) Brr.out rfl
      have Brrl := (Array.getElem?_eq_some_iff.1 Brr.out).1
      have Bttc0 := cell_blk (j := 0) (v := .slice Att1 tt.m.length ctt1) Btt.out rfl
      have Bttc1 := cell_blk (j := 1) (v := .int .i64 tt.q) Btt.out rfl
      have Bttc2 := cell_blk (j := 2) (v := .int .i64 tt.bx) Btt.out rfl
      have Bttc3 := cell_blk (j := 3) (v := .int .i64 tt.by_) Btt.out rfl
      have Bttc4 := cell_blk (j := 4) (v := .int .i64 tt.lo) Btt.out rfl
      have Bttc5 := cell_blk (j := 5) (v := .int .i64 tt.hi) Btt.out rfl
      have Bttc6 := cell_blk (j := 6) (v := .slice Att2 tt.ns.length ctt2) Btt.out rfl
      have Bttc7 := cell_blk (j := 7) (v := .slice Att3 tt.ls.length ctt3) Btt.out rfl
      have Bttl := (Array.getElem?_eq_some_iff.1 Btt.out).1
      have Bxrrc0 := cell_blk (j := 0) (v := .slice (some ⟨axrr1, 0, none⟩) rr.m.length dxrr1) Bxrr.out rfl
      have Bxrrc1 := cell_blk (j := 1) (v := .int .i64 rr.q) Bxrr.out rfl
      have Bxrrc2 := cell_blk (j := 2) (v := .int .i64 rr.bx) Bxrr.out rfl
      have Bxrrc3 := cell_blk (j := 3) (v := .int .i64 rr.by_) Bxrr.out rfl
      have Bxrrc4 := cell_blk (j := 4) (v := .int .i64 rr.lo) Bxrr.out rfl
      have Bxrrc5 := cell_blk (j := 5) (v := .int .i64 rr.hi) Bxrr.out rfl
      have Bxrrc6 := cell_blk (j := 6) (v := .slice axrr2 rr.ns.length dxrr2) Bxrr.out rfl
      have Bxrrc7 := cell_blk (j := 7) (v := .slice axrr3 rr.ls.length dxrr3) Bxrr.out rfl
      have Bxrrl := (Array.getElem?_eq_some_iff.1 Bxrr.out).1
      have Bxttc0 := cell_blk (j := 0) (v := .slice (some ⟨axtt1, 0, none⟩) tt.m.length dxtt1) Bxtt.out rfl
      have Bxttc1 := cell_blk (j := 1) (v := .int .i64 tt.q) Bxtt.out rfl
      have Bxttc2 := cell_blk (j := 2) (v := .int .i64 tt.bx) Bxtt.out rfl
      have Bxttc3 := cell_blk (j := 3) (v := .int .i64 tt.by_) Bxtt.out rfl
      have Bxttc4 := cell_blk (j := 4) (v := .int .i64 tt.lo) Bxtt.out rfl
      have Bxttc5 := cell_blk (j := 5) (v := .int .i64 tt.hi) Bxtt.out rfl
      have Bxttc6 := cell_blk (j := 6) (v := .slice axtt2 tt.ns.length dxtt2) Bxtt.out rfl
      have Bxttc7 := cell_blk (j := 7) (v := .slice axtt3 tt.ls.length dxtt3) Bxtt.out rfl
      have Bxttl := (Array.getElem?_eq_some_iff.1 Bxtt.out).1
      go_wp2_with fail
      clear Brrc0 Brrc1 Brrc2 Brrc3 Brrc4 Brrc5 Brrc6 Brrc7 Bttc0 Bttc1 Bttc2 Bttc3 Bttc4 Bttc5 Bttc6 Bttc7 Bxrrc0 Bxrrc1 Bxrrc2 Bxrrc3 Bxrrc4 Bxrrc5 Bxrrc6 Bxrrc7 Bxttc0 Bxttc1 Bxttc2 Bxttc3 Bxttc4 Bxttc5 Bxttc6 Bxttc7 Brrl Bttl Bxrrl Bxttl
      have Brrc0 := cell_blk (j := 0) (v := .slice Arr1 rr.m.length crr1) Brr.out rfl
      have Brrc1 := cell_blk (j := 1) (v := .int .i64 rr.q) Brr.out rfl
      have Brrc2 := cell_blk (j := 2) (v := .int .i64 rr.bx) Brr.out rfl
      have Brrc3 := cell_blk (j := 3) (v := .int .i64 rr.by_) Brr.out rfl
      have Brrc4 := cell_blk (j := 4) (v := .int .i64 rr.lo) Brr.out rfl
      have Brrc5 := cell_blk (j := 5) (v := .int .i64 rr.hi) Brr.out rfl
      have Brrc6 := cell_blk (j := 6) (v := .slice Arr2 rr.ns.length crr2) Brr.out rfl
      have Brrc7 := cell_blk (j := 7) (v := .slice Arr3 rr.ls.length crr3) Brr.out rfl
      have Brrl := (Array.getElem?_eq_some_iff.1 Brr.out).1
      have Bttc0 := cell_blk (j := 0) (v := .slice Att1 tt.m.length ctt1) Btt.out rfl
      have Bttc1 := cell_blk (j := 1) (v := .int .i64 tt.q) Btt.out rfl
      have Bttc2 := cell_blk (j := 2) (v := .int .i64 tt.bx) Btt.out rfl
      have Bttc3 := cell_blk (j := 3) (v := .int .i64 tt.by_) Btt.out rfl
      have Bttc4 := cell_blk (j := 4) (v := .int .i64 tt.lo) Btt.out rfl
      have Bttc5 := cell_blk (j := 5) (v := .int .i64 tt.hi) Btt.out rfl
      have Bttc6 := cell_blk (j := 6) (v := .slice Att2 tt.ns.length ctt2) Btt.out rfl
      have Bttc7 := cell_blk (j := 7) (v := .slice Att3 tt.ls.length ctt3) Btt.out rfl
      have Bttl := (Array.getElem?_eq_some_iff.1 Btt.out).1
      have Bxrrc0 := cell_blk (j := 0) (v := .slice (some ⟨axrr1, 0, none⟩) rr.m.length dxrr1) Bxrr.out rfl
      have Bxrrc1 := cell_blk (j := 1) (v := .int .i64 rr.q) Bxrr.out rfl
      have Bxrrc2 := cell_blk (j := 2) (v := .int .i64 rr.bx) Bxrr.out rfl
      have Bxrrc3 := cell_blk (j := 3) (v := .int .i64 rr.by_) Bxrr.out rfl
      have Bxrrc4 := cell_blk (j := 4) (v := .int .i64 rr.lo) Bxrr.out rfl
      have Bxrrc5 := cell_blk (j := 5) (v := .int .i64 rr.hi) Bxrr.out rfl
      have Bxrrc6 := cell_blk (j := 6) (v := .slice axrr2 rr.ns.length dxrr2) Bxrr.out rfl
      have Bxrrc7 := cell_blk (j := 7) (v := .slice axrr3 rr.ls.length dxrr3) Bxrr.out rfl
      have Bxrrl := (Array.getElem?_eq_some_iff.1 Bxrr.out).1
      have Bxttc0 := cell_blk (j := 0) (v := .slice (some ⟨axtt1, 0, none⟩) tt.m.length dxtt1) Bxtt.out rfl
      have Bxttc1 := cell_blk (j := 1) (v := .int .i64 tt.q) Bxtt.out rfl
      have Bxttc2 := cell_blk (j := 2) (v := .int .i64 tt.bx) Bxtt.out rfl
      have Bxttc3 := cell_blk (j := 3) (v := .int .i64 tt.by_) Bxtt.out rfl
      have Bxttc4 := cell_blk (j := 4) (v := .int .i64 tt.lo) Bxtt.out rfl
      have Bxttc5 := cell_blk (j := 5) (v := .int .i64 tt.hi) Bxtt.out rfl
      have Bxttc6 := cell_blk (j := 6) (v := .slice axtt2 tt.ns.length dxtt2) Bxtt.out rfl
      have Bxttc7 := cell_blk (j := 7) (v := .slice axtt3 tt.ls.length dxtt3) Bxtt.out rfl
      have Bxttl := (Array.getElem?_eq_some_iff.1 Bxtt.out).1
      refine wp_region_rel [.pur [] ?d3c0, .pur [] ?d3c1, .rel [] [2] false (IsOw (GRoom tt)), .pur [2] ?d3c3, .pur [] ?d3c4] _ rfl rfl (by kernel_rfl) (by kernel_rfl) ?hstd3 (fun vs => ?walkd3)
      case' walkd3 =>
        (refine wpRel_pur rfl rfl (fun x => by ((go_wp2); refine relEnd_pur rfl ?_ (by repeat (first | exact Below.refl _ _ | refine below_ov _ _ ?_ (by first | omega | (simp [ov_size] <;> omega)) | refine Below.alloc ?_ (by first | omega | (simp [ov_size] <;> omega)) _ | refine Below.setCell ?_ (by first | omega | (simp [ov_size] <;> omega)) _ | refine Below.drew ?_ | refine below_drewN ?_ _)); simp only [Act.put, List.setIfInBounds_toArray, List.set_cons_succ, List.set_cons_zero]; rfl)) ?_; simp only [Act.put, List.setIfInBounds_toArray, List.set_cons_succ, List.set_cons_zero])
        (refine wpRel_pur rfl rfl (fun x => by ((go_wp2); refine relEnd_pur rfl ?_ (by repeat (first | exact Below.refl _ _ | refine below_ov _ _ ?_ (by first | omega | (simp [ov_size] <;> omega)) | refine Below.alloc ?_ (by first | omega | (simp [ov_size] <;> omega)) _ | refine Below.setCell ?_ (by first | omega | (simp [ov_size] <;> omega)) _ | refine Below.drew ?_ | refine below_drewN ?_ _)); simp only [Act.put, List.setIfInBounds_toArray, List.set_cons_succ, List.set_cons_zero]; rfl)) ?_; simp only [Act.put, List.setIfInBounds_toArray, List.set_cons_succ, List.set_cons_zero])
        refine wpRel_own rfl rfl rfl (fun x hh => ?_) ?_
        · go_wp2_with fail
          refine (toRoom_any tt (Stt.below (by repeat (first | exact Below.refl _ _ | refine below_ov _ _ ?_ (by first | omega | (simp [ov_size] <;> omega)) | refine Below.alloc ?_ (by first | omega | (simp [ov_size] <;> omega)) _ | refine Below.setCell ?_ (by first | omega | (simp [ov_size] <;> omega)) _ | refine Below.drew ?_ | refine below_drewN ?_ _))) hstt).mono ?_
          rintro e w7 ⟨a71, d71, a72, d72, a73, d73, rfl, Q7, hb7⟩
          go_wp2
          refine relEnd_ow rfl rfl ?_ hb7 ⟨a71, d71, a72, d72, a73, d73, rfl, Q7.weak (by rw [ov_size]; omega)⟩
          (simp only [Act.put, List.setIfInBounds_toArray, List.set_cons_succ, List.set_cons_zero] <;> rfl)
        simp only [Act.put, List.setIfInBounds_toArray, List.set_cons_succ, List.set_cons_zero]
        (refine wpRel_purn rfl rfl (fun x hh => by ((obtain ⟨ao21, do21, ao22, do22, ao23, do23, f2, Qo2⟩ := isOw_at (hh 2 (by simp)) rfl; simp only [f2]); (go_wp2_with (first | (go_at_call 18; refine (calls_ov (eqRoom_same (by exact (Xxtt.below (by repeat (first | exact Below.refl _ _ | refine below_ov _ _ ?_ (by first | omega | (simp [ov_size] <;> omega)) | refine Below.alloc ?_ (by first | omega | (simp [ov_size] <;> omega)) _ | refine Below.setCell ?_ (by first | omega | (simp [ov_size] <;> omega)) _ | refine Below.drew ?_ | refine below_drewN ?_ _))).rm) (by first | exact (Qo2.below (by repeat (first | exact Below.refl _ _ | refine below_ov _ _ ?_ (by first | omega | (simp [ov_size] <;> omega)) | refine Below.alloc ?_ (by first | omega | (simp [ov_size] <;> omega)) _ | refine Below.setCell ?_ (by first | omega | (simp [ov_size] <;> omega)) _ | refine Below.drew ?_ | refine below_drewN ?_ _))).rm | exact Qo2.rm) hstt)).mono ?_; rintro e w' ⟨rfl, x, rfl⟩))); refine relEnd_pur rfl ?_ (by repeat (first | exact Below.refl _ _ | refine below_ov _ _ ?_ (by first | omega | (simp [ov_size] <;> omega)) | refine Below.alloc ?_ (by first | omega | (simp [ov_size] <;> omega)) _ | refine Below.setCell ?_ (by first | omega | (simp [ov_size] <;> omega)) _ | refine Below.drew ?_ | refine below_drewN ?_ _)); simp only [Act.put, List.setIfInBounds_toArray, List.set_cons_succ, List.set_cons_zero]; rfl)) ?_; simp only [Act.put, List.setIfInBounds_toArray, List.set_cons_succ, List.set_cons_zero])
        (refine wpRel_pur rfl rfl (fun x => by ((go_wp2); refine relEnd_pur rfl ?_ (by repeat (first | exact Below.refl _ _ | refine below_ov _ _ ?_ (by first | omega | (simp [ov_size] <;> omega)) | refine Below.alloc ?_ (by first | omega | (simp [ov_size] <;> omega)) _ | refine Below.setCell ?_ (by first | omega | (simp [ov_size] <;> omega)) _ | refine Below.drew ?_ | refine below_drewN ?_ _)); simp only [Act.put, List.setIfInBounds_toArray, List.set_cons_succ, List.set_cons_zero]; rfl)) ?_; simp only [Act.put, List.setIfInBounds_toArray, List.set_cons_succ, List.set_cons_zero])
        refine wpRelE_nilB0 (fun W8 K hh => ?_)
        clear hh
        clear Brrc0 Brrc1 Brrc2 Brrc3 Brrc4 Brrc5 Brrc6 Brrc7 Bttc0 Bttc1 Bttc2 Bttc3 Bttc4 Bttc5 Bttc6 Bttc7 Bxrrc0 Bxrrc1 Bxrrc2 Bxrrc3 Bxrrc4 Bxrrc5 Bxrrc6 Bxrrc7 Bxttc0 Bxttc1 Bxttc2 Bxttc3 Bxttc4 Bxttc5 Bxttc6 Bxttc7 Brrl Bttl Bxrrl Bxttl
        replace T := T.trans (K.mono T.size)
        replace Brr := box_below Brr K
        replace Btt := box_below Btt K
        replace Bxrr := box_below Bxrr K
        replace Bxtt := box_below Bxtt K
        replace Xxrr := Xxrr.below K
        replace Xxtt := Xxtt.below K
        clear K Srr Stt
        have Srr := Rrr.below (TV.trans (T.mono s0))
        have Stt := Rtt.below (TV.trans (T.mono s0))
        have Brrc0 := cell_blk (j := 0) (v := .slice Arr1 rr.m.length crr1) Brr.out rfl
        have Brrc1 := cell_blk (j := 1) (v := .int .i64 rr.q) Brr.out rfl
        have Brrc2 := cell_blk (j := 2) (v := .int .i64 rr.bx) Brr.out rfl
        have Brrc3 := cell_blk (j := 3) (v := .int .i64 rr.by_) Brr.out rfl
        have Brrc4 := cell_blk (j := 4) (v := .int .i64 rr.lo) Brr.out rfl
        have Brrc5 := cell_blk (j := 5) (v := .int .i64 rr.hi) Brr.out rfl
        have Brrc6 := cell_blk (j := 6) (v := .slice Arr2 rr.ns.length crr2) Brr.out rfl
        have Brrc7 := cell_blk (j := 7) (v := .slice Arr3 rr.ls.length crr3) Brr.out rfl
        have Brrl := (Array.getElem?_eq_some_iff.1 Brr.out).1
        have Bttc0 := cell_blk (j := 0) (v := .slice Att1 tt.m.length ctt1) Btt.out rfl
        have Bttc1 := cell_blk (j := 1) (v := .int .i64 tt.q) Btt.out rfl
        have Bttc2 := cell_blk (j := 2) (v := .int .i64 tt.bx) Btt.out rfl
        have Bttc3 := cell_blk (j := 3) (v := .int .i64 tt.by_) Btt.out rfl
        have Bttc4 := cell_blk (j := 4) (v := .int .i64 tt.lo) Btt.out rfl
        have Bttc5 := cell_blk (j := 5) (v := .int .i64 tt.hi) Btt.out rfl
        have Bttc6 := cell_blk (j := 6) (v := .slice Att2 tt.ns.length ctt2) Btt.out rfl
        have Bttc7 := cell_blk (j := 7) (v := .slice Att3 tt.ls.length ctt3) Btt.out rfl
        have Bttl := (Array.getElem?_eq_some_iff.1 Btt.out).1
        have Bxrrc0 := cell_blk (j := 0) (v := .slice (some ⟨axrr1, 0, none⟩) rr.m.length dxrr1) Bxrr.out rfl
        have Bxrrc1 := cell_blk (j := 1) (v := .int .i64 rr.q) Bxrr.out rfl
        have Bxrrc2 := cell_blk (j := 2) (v := .int .i64 rr.bx) Bxrr.out rfl
        have Bxrrc3 := cell_blk (j := 3) (v := .int .i64 rr.by_) Bxrr.out rfl
        have Bxrrc4 := cell_blk (j := 4) (v := .int .i64 rr.lo) Bxrr.out rfl
        have Bxrrc5 := cell_blk (j := 5) (v := .int .i64 rr.hi) Bxrr.out rfl
        have Bxrrc6 := cell_blk (j := 6) (v := .slice axrr2 rr.ns.length dxrr2) Bxrr.out rfl
        have Bxrrc7 := cell_blk (j := 7) (v := .slice axrr3 rr.ls.length dxrr3) Bxrr.out rfl
        have Bxrrl := (Array.getElem?_eq_some_iff.1 Bxrr.out).1
        have Bxttc0 := cell_blk (j := 0) (v := .slice (some ⟨axtt1, 0, none⟩) tt.m.length dxtt1) Bxtt.out rfl
        have Bxttc1 := cell_blk (j := 1) (v := .int .i64 tt.q) Bxtt.out rfl
        have Bxttc2 := cell_blk (j := 2) (v := .int .i64 tt.bx) Bxtt.out rfl
        have Bxttc3 := cell_blk (j := 3) (v := .int .i64 tt.by_) Bxtt.out rfl
        have Bxttc4 := cell_blk (j := 4) (v := .int .i64 tt.lo) Bxtt.out rfl
        have Bxttc5 := cell_blk (j := 5) (v := .int .i64 tt.hi) Bxtt.out rfl
        have Bxttc6 := cell_blk (j := 6) (v := .slice axtt2 tt.ns.length dxtt2) Bxtt.out rfl
        have Bxttc7 := cell_blk (j := 7) (v := .slice axtt3 tt.ls.length dxtt3) Bxtt.out rfl
        have Bxttl := (Array.getElem?_eq_some_iff.1 Bxtt.out).1
        go_wp2
        go_ret
        exact ⟨rfl, (by repeat (first | exact TV.trans (T.mono s0) | refine below_ov _ _ ?_ (by first | omega | (simp [ov_size] <;> omega)) | refine Below.alloc ?_ (by first | omega | (simp [ov_size] <;> omega)) _ | refine Below.setCell ?_ (by first | omega | (simp [ov_size] <;> omega)) _ | refine Below.drew ?_ | refine below_drewN ?_ _))⟩
      case' hstd3 => exact (by repeat (first | exact all_nil | refine all_cons trivial ?_ | refine all_cons isAl_stable ?_ | refine all_cons isSt_stable ?_ | refine all_cons isStB_stable ?_ | refine all_cons (isOw_stable (by assumption)) ?_))
    case' hstd2 => exact (by repeat (first | exact all_nil | refine all_cons trivial ?_ | refine all_cons isAl_stable ?_ | refine all_cons isSt_stable ?_ | refine all_cons isStB_stable ?_ | refine all_cons (isOw_stable (by assumption)) ?_))
  case' hstd1 => exact (by repeat (first | exact all_nil | refine all_cons trivial ?_ | refine all_cons isAl_stable ?_ | refine all_cons isSt_stable ?_ | refine all_cons isStB_stable ?_ | refine all_cons (isOw_stable (by assumption)) ?_))
set_option maxRecDepth 100000 in
theorem FnExactSameRooms_lifted (os : Os) (started : os.Started) (H : Type) (enc : TypeId × Value → H) :
    ReturnsInHanded {} Try.checked os 12 .any (Rows.fnExactSameRoomsSpec.pre6 enc Try.prog Try.f12 Rows.fnExactSameRoomsRow.domain false) (Rows.fnExactSameRoomsSpec.post enc Try.prog Try.f12 false true false false) := by
  refine returnsInHanded_of_change (C := Try.checked) own started (by kernel_rfl) Try.func12
    (ChangeSpec.witness6 (enc := enc) (C := Try.checked) false ⟨#[], #[.agg #[.slice none 0 0, .int .i64 0, .int .i64 0, .int .i64 0, .int .i64 0, .int .i64 0, .slice none 0 0, .slice none 0 0], .agg #[.slice none 0 0, .int .i64 0, .int .i64 0, .int .i64 0, .int .i64 0, .int .i64 0, .slice none 0 0, .slice none 0 0]], []⟩ 8 (by kernel_rfl) (by kernel_rfl) (by kernel_rfl) (by kernel_rfl)) ?_
  intro W base args ds gs before hval0 hW hcnd _
  have hval : ∀ (j : Nat) t v, Try.f12.params[j]? = some t → args[j]? = some v → Value.okWide Try.prog W .any base t v := hval0
  have hW' := hW
  obtain ⟨p, q, hA0, hV, rfl, hfz, hnd⟩ := hW
  have hA : DataW.TrodAll enc Try.prog W 0 (fun _ => true) true Try.f12.params.toList args.toList ds p := hA0
  rw [Try.params12] at hA hval
  obtain ⟨v0, vs0, d0, ds0, p0, q0, hargs0, rfl, rfl, h0, r0⟩ := trodAll_cons hA
  obtain ⟨v1, vs1, d1, ds1, p1, q1, hargs1, rfl, rfl, h1, r1⟩ := trodAll_cons r0
  obtain ⟨rfl, rfl, rfl⟩ := trodAll_nil r1
  obtain rfl : args = #[v0, v1] := by cases args; simp_all
  obtain ⟨rfl, rfl⟩ := trodVars_none hV
  have k0 := h0
  have lt0 : ∀ x ∈ p0, x.block < W.heap.size := by obtain ⟨m, hm⟩ := k0; exact DataW.trod_lt m _ _ _ hm
  have k1 := h1
  have lt1 : ∀ x ∈ p1, x.block < W.heap.size := by obtain ⟨m, hm⟩ := k1; exact DataW.trod_lt m _ _ _ hm
  have hv0 := hval 0 27 v0 rfl rfl
  have hv1 := hval 1 27 v1 rfl rfl
  obtain ⟨r0, A01, A02, A03, c01, c02, c03, rfl, RR0, hlen0⟩ := open_room hv0 h0
  obtain ⟨r1, A11, A12, A13, c11, c12, c13, rfl, RR1, hlen1⟩ := open_room hv1 h1
  clear hA0 hval0
  refine (law06_any W RR0 hlen0 RR1 hlen1).mono fun e W' ⟨he, bel⟩ => ?_
  subst he
  exact ⟨_, rfl, _, _, _, [], _, [], hW', trodAll_mk1 (shut_bool Try.underlying4 _), (trodAll_cons_mk (Below.trod laidOut (by kernel_rfl) (of_decide_eq_true (by kernel_rfl)) k0 bel lt0) (trodAll_cons_mk (Below.trod laidOut (by kernel_rfl) (of_decide_eq_true (by kernel_rfl)) k1 bel lt1) trodAll_mk0)), rfl, bel.frame _, fun h => by cases h⟩

theorem FnExactSameRooms_holds : Rows.FnExactSameRoomsSaid :=
  OpenClaim.holds_of_wide 12 Try.f12 rfl rfl rfl rfl rfl rfl rfl ⟨rfl, rfl, rfl, rfl, rfl⟩ rfl rfl rfl rfl rfl (by kernel_rfl) Try.func12 (by kernel_rfl)
    (of_decide_eq_true (by kernel_rfl)) (by unfold Func.isWrapper; first | (rw [if_pos (by decide +kernel)]; kernel_rfl) | (rw [if_neg (by decide +kernel)]; exact ⟨rfl, rfl⟩))
    (fun os started H enc _ => FnExactSameRooms_lifted os started H enc)
#print axioms FnExactSameRooms_holds

end Go.Proofs.Ytgdleimdenbnlaa
