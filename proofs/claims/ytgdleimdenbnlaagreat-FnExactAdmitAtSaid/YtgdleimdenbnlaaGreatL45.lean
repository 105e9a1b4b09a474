/- FnExactAdmitAt returns true for every argument, and leaves it as it was. No condition. -/
import Derived.Test.YtgdleimdenbnlaaGreatQo2
set_option linter.unusedVariables false
set_option linter.unusedSimpArgs false
set_option linter.unusedSectionVars false
namespace Go.Proofs.YtgdleimdenbnlaaGreat
open Go.ChangeShapes Go.WideShapes Go.ChangeAt Go.RowKit Go.Joins

set_option maxRecDepth 100000 in
set_option maxHeartbeats 8000000 in
theorem law45_any {rr : RoomV} {Arr1 Arr2 Arr3 : Option Addr} {crr1 crr2 crr3 : Nat} {p : List H3} {Ap : Option Addr} {cp : Nat} {x1 y1 e1 : Int} (w : World) (Rrr : RLM w rr Arr1 Arr2 Arr3) (hlrr : rr.InL) (Rp : RL w Ap p) (hlp : p.length ≤ 9223372036854775807) (hx1 : -9223372036854775808 ≤ x1 ∧ x1 ≤ 9223372036854775807) (hy1 : -9223372036854775808 ≤ y1 ∧ y1 ≤ 9223372036854775807) (he1 : -9223372036854775808 ≤ e1 ∧ e1 ≤ 9223372036854775807) :
    Calls Tryz.prog 5 #[.agg #[.slice Arr1 rr.m.length crr1, .int .i64 rr.q, .int .i64 rr.bx, .int .i64 rr.by_, .int .i64 rr.lo, .int .i64 rr.hi, .slice Arr2 rr.ns.length crr2, .slice Arr3 rr.ls.length crr3], .agg #[.slice Ap p.length cp], .agg #[.int .i64 x1, .int .i64 y1, .int .i64 e1]] w fun e w' => e = .returned (.bool true) ∧ Below w.heap.size w w' := by
  obtain ⟨zrr, hzrr⟩ : ∃ z, szRm rr (1048576 : Int) = z := ⟨_, rfl⟩
  have HZrr := Lib.hid hzrr
  by_cases hcrr : zrr < 0
  · clear hzrr
    go_enter Tryz.func5, Tryz.ntmps5
    go_wp2_with (first | (go_at_call 14; (first | (with_reducible refine (calls_ov2 (szRoom_eq HZrr hlrr ⟨by omega, by omega⟩)).mono ?_) | refine (calls_ov (szRoom_eq HZrr hlrr ⟨by omega, by omega⟩)).mono ?_); rintro e w' ⟨rfl, x, rfl⟩))
    go_ret
    exact ⟨rfl, (by repeat (first | exact bR | refine bO ?_ | refine bA ?_ | refine bS ?_ | refine bD ?_ | refine bN ?_))⟩
  have hmrr := szRm_bd hzrr (by omega) (by omega)
  have hmmrr := hmrr.1
  have hmnrr := hmrr.2.1
  have hmlrr := hmrr.2.2.1
  have hzbrr := hmrr.2.2.2
  have hsrr : rr.Short := ⟨hmmrr, hmnrr, hmlrr⟩
  clear hmrr
  obtain ⟨zp, hzp⟩ : ∃ z, szL p.length zrr = z := ⟨_, rfl⟩
  have HZp := Lib.hid hzp
  by_cases hcp : zp < 0
  · clear hzrr hzp
    go_enter Tryz.func5, Tryz.ntmps5
    go_wp2_with (first | (go_at_call 14; (first | (with_reducible refine (calls_ov2 (szRoom_eq HZrr hlrr ⟨by omega, by omega⟩)).mono ?_) | refine (calls_ov (szRoom_eq HZrr hlrr ⟨by omega, by omega⟩)).mono ?_); rintro e w' ⟨rfl, x, rfl⟩) | (go_at_call 15; (first | (with_reducible refine (calls_ov2 (szRegion_eq (by exact HZp) (by omega) ⟨by omega, by omega⟩)).mono ?_) | refine (calls_ov (szRegion_eq (by exact HZp) (by omega) ⟨by omega, by omega⟩)).mono ?_); rintro e w' ⟨rfl, x, rfl⟩))
    go_ret
    exact ⟨rfl, (by repeat (first | exact bR | refine bO ?_ | refine bA ?_ | refine bS ?_ | refine bD ?_ | refine bN ?_))⟩
  have hmp : p.length ≤ 1048576 ∧ zp ≤ 1048576 := by unfold szL at hzp; split at hzp <;> omega
  have hmmp := hmp.1
  have hzbp := hmp.2
  clear hmp
  obtain ⟨⟨⟨⟨r1, r2⟩, r3, r4⟩, ok⟩, hr⟩ : ∃ r, admitR rr p x1 y1 e1 = r := ⟨_, rfl⟩
  have HR := Lib.hid hr
  have ORrr0 := owned_room (T := 37) (by decide) (by decide) rr
  have ORrr1 := owned_room (T := 39) (by decide) (by decide) rr
  have ORrr2 := owned_room (T := 55) (by decide) (by decide) rr
  have ORp0 := owned_regT (T := 37) (by decide) p
  have ORp1 := owned_regT (T := 39) (by decide) p
  have ORp2 := owned_regT (T := 55) (by decide) p
  clear hr hzrr hzp
  have hne : (ok != ok) = false := by simp
  go_enter Tryz.func5, Tryz.ntmps5
  go_wp2_with (first | (go_at_call 14; (first | (with_reducible refine (calls_ov2 (szRoom_eq HZrr hlrr ⟨by omega, by omega⟩)).mono ?_) | refine (calls_ov (szRoom_eq HZrr hlrr ⟨by omega, by omega⟩)).mono ?_); rintro e w' ⟨rfl, x, rfl⟩) | (go_at_call 15; (first | (with_reducible refine (calls_ov2 (szRegion_eq (by exact HZp) (by omega) ⟨by omega, by omega⟩)).mono ?_) | refine (calls_ov (szRegion_eq (by exact HZp) (by omega) ⟨by omega, by omega⟩)).mono ?_); rintro e w' ⟨rfl, x, rfl⟩))
  obtain ⟨V, hV⟩ : ∃ V, (((w.alloc (.cells #[.slice Arr1 rr.m.length crr1, .int .i64 rr.q, .int .i64 rr.bx, .int .i64 rr.by_, .int .i64 rr.lo, .int .i64 rr.hi, .slice Arr2 rr.ns.length crr2, .slice Arr3 rr.ls.length crr3] 27)).alloc (.cells #[.slice Ap p.length cp] 25)).alloc (.cells #[.int .i64 x1, .int .i64 y1, .int .i64 e1] 29)) = V := ⟨_, rfl⟩
  have TV : Below w.heap.size w V := by rw [← hV]; exact (by repeat (first | exact bR | refine bO ?_ | refine bA ?_ | refine bS ?_ | refine bD ?_ | refine bN ?_))
  have X0 : V.heap[w.heap.size]? = some (.cells #[.slice Arr1 rr.m.length crr1, .int .i64 rr.q, .int .i64 rr.bx, .int .i64 rr.by_, .int .i64 rr.lo, .int .i64 rr.hi, .slice Arr2 rr.ns.length crr2, .slice Arr3 rr.ls.length crr3] 27 (0, 0)) := by rw [← hV]; exact ((heap_old_at (by first | (simp; done) | (simp <;> omega))).trans ((heap_old_at (by first | (simp; done) | (simp <;> omega))).trans (heap_new_at (by simp) rfl)))
  have X1 : V.heap[w.heap.size + 1]? = some (.cells #[.slice Ap p.length cp] 25 (0, 0)) := by rw [← hV]; exact ((heap_old_at (by first | (simp; done) | (simp <;> omega))).trans (heap_new_at (by simp) rfl))
  have X2 : V.heap[w.heap.size + 1 + 1]? = some (.cells #[.int .i64 x1, .int .i64 y1, .int .i64 e1] 29 (0, 0)) := by rw [← hV]; exact (heap_new_at (by simp) rfl)
  rw [hV]
  clear hV
  generalize w.heap.size + 1 + 1 = ba2 at X2 ⊢
  generalize w.heap.size + 1 = ba1 at X1 ⊢
  obtain ⟨W0, hW⟩ : ∃ W0, W0 = ov V x := ⟨_, rfl⟩
  rw [← hW]
  have T : Below V.heap.size V W0 := by rw [hW]; exact (by repeat (first | exact bR | refine bO ?_ | refine bA ?_ | refine bS ?_ | refine bD ?_ | refine bN ?_))
  clear hW
  have Brr := box_below (Lib.hid X0) T
  clear X0
  have Bp := box_below (Lib.hid X1) T
  clear X1
  have Bx1 := box_below (Lib.hid X2) T
  clear X2
  have s0 : w.heap.size ≤ V.heap.size := TV.size
  have Srr := Rrr.below (TV.trans (T.mono s0))
  have Sp := Rp.below (TV.trans (T.mono s0))
  obtain ⟨Brrc0, Brrc1, Brrc2, Brrc3, Brrc4, Brrc5, Brrc6, Brrc7, Brrl⟩ := cb8 Brr
  obtain ⟨Bpc0, Bpl⟩ := cb1 Bp
  obtain ⟨Bx1c0, Bx1c1, Bx1c2, Bx1l⟩ := cb3 Bx1
  refine wp_region_rel [.pur [] ?d1c0, .rel [] [1] false (IsOw (GRoom rr)), .pur [] ?d1c2, .rel [] [3] false (IsOw (GReg p)), .pur [] ?d1c4, .pur [] ?d1c5, .pur [1, 3] ?d1c6, .pur [] ?d1c7, .pur [] ?d1c8, .pur [] ?d1c9, .rel [] [10] false (IsAl 55 4), .rel [10, 8] [10, 8] true (IsSt 55), .pur [] ?d1c12] _ rfl rfl (by kernel_rfl) (by kernel_rfl) ?hstd1 (fun vs => ?walkd1)
  case' walkd1 =>
    (refine wpRel_pur rfl rfl (fun x => by ((go_wp2); refine relEnd_pur rfl ?_ (by repeat (first | exact bR | refine bO ?_ | refine bA ?_ | refine bS ?_ | refine bD ?_ | refine bN ?_)); simp only [Act.put, List.setIfInBounds_toArray, List.set_cons_succ, List.set_cons_zero]; rfl)) ?_; simp only [Act.put, List.setIfInBounds_toArray, List.set_cons_succ, List.set_cons_zero])
    refine wpRel_own rfl rfl rfl (fun x hh => ?_) ?_
    · go_wp2_with fail
      refine (toRoom_any rr (Srr.below (by repeat (first | exact bR | refine bO ?_ | refine bA ?_ | refine bS ?_ | refine bD ?_ | refine bN ?_))) hsrr).mono ?_
      rintro e w7 ⟨a71, d71, a72, d72, a73, d73, rfl, Q7, hb7⟩
      go_wp2
      refine relEnd_ow rfl rfl ?_ hb7 ⟨a71, d71, a72, d72, a73, d73, rfl, Q7.weak (by rw [ov_size]; omega)⟩
      (simp only [Act.put, List.setIfInBounds_toArray, List.set_cons_succ, List.set_cons_zero] <;> rfl)
    simp only [Act.put, List.setIfInBounds_toArray, List.set_cons_succ, List.set_cons_zero]
    (refine wpRel_pur rfl rfl (fun x => by ((go_wp2); refine relEnd_pur rfl ?_ (by repeat (first | exact bR | refine bO ?_ | refine bA ?_ | refine bS ?_ | refine bD ?_ | refine bN ?_)); simp only [Act.put, List.setIfInBounds_toArray, List.set_cons_succ, List.set_cons_zero]; rfl)) ?_; simp only [Act.put, List.setIfInBounds_toArray, List.set_cons_succ, List.set_cons_zero])
    refine wpRel_own rfl rfl rfl (fun x hh => ?_) ?_
    · go_wp2_with fail
      refine (toRegion_any (Sp.below (by repeat (first | exact bR | refine bO ?_ | refine bA ?_ | refine bS ?_ | refine bD ?_ | refine bN ?_))) (by omega)).mono ?_
      rintro e w7 ⟨a7, d7, rfl, Q7, hb7⟩
      go_wp2
      refine relEnd_ow rfl rfl ?_ hb7 ⟨a7, d7, rfl, Q7.weak (by rw [ov_size]; omega)⟩
      (simp only [Act.put, List.setIfInBounds_toArray, List.set_cons_succ, List.set_cons_zero] <;> rfl)
    simp only [Act.put, List.setIfInBounds_toArray, List.set_cons_succ, List.set_cons_zero]
    (refine wpRel_pur rfl rfl (fun x => by ((go_wp2); refine relEnd_pur rfl ?_ (by repeat (first | exact bR | refine bO ?_ | refine bA ?_ | refine bS ?_ | refine bD ?_ | refine bN ?_)); simp only [Act.put, List.setIfInBounds_toArray, List.set_cons_succ, List.set_cons_zero]; rfl)) ?_; simp only [Act.put, List.setIfInBounds_toArray, List.set_cons_succ, List.set_cons_zero])
    (refine wpRel_pur rfl rfl (fun x => by ((go_wp2_with (first | (go_at_call 18; refine (calls_ov (toSpot_any _ _ _ _)).mono ?_; rintro e w' ⟨rfl, x, rfl⟩))); refine relEnd_pur rfl ?_ (by repeat (first | exact bR | refine bO ?_ | refine bA ?_ | refine bS ?_ | refine bD ?_ | refine bN ?_)); simp only [Act.put, List.setIfInBounds_toArray, List.set_cons_succ, List.set_cons_zero]; rfl)) ?_; simp only [Act.put, List.setIfInBounds_toArray, List.set_cons_succ, List.set_cons_zero])
    (refine wpRel_purn rfl rfl (fun x hh => by ((obtain ⟨ao11, do11, ao12, do12, ao13, do13, f1, Qo1⟩ := isOw_at (hh 1 (by simp)) rfl; simp only [f1]; obtain ⟨ao3, do3, f3, Qo3⟩ := isOw_at (hh 3 (by simp)) rfl; simp only [f3]); (go_wp2_with (first | (go_at_call 29; refine (calls_ov (spec_AdmitAt_eq Qo1.rm hsrr Qo3.r3 (by omega) ⟨hx1, hy1, he1⟩ HR)).mono ?_; rintro e w' ⟨rfl, x, rfl⟩))); refine relEnd_pur rfl ?_ (by repeat (first | exact bR | refine bO ?_ | refine bA ?_ | refine bS ?_ | refine bD ?_ | refine bN ?_)); simp only [Act.put, List.setIfInBounds_toArray, List.set_cons_succ, List.set_cons_zero]; rfl)) ?_; simp only [Act.put, List.setIfInBounds_toArray, List.set_cons_succ, List.set_cons_zero])
    (refine wpRel_pur rfl rfl (fun x => by ((go_wp2); refine relEnd_pur rfl ?_ (by repeat (first | exact bR | refine bO ?_ | refine bA ?_ | refine bS ?_ | refine bD ?_ | refine bN ?_)); simp only [Act.put, List.setIfInBounds_toArray, List.set_cons_succ, List.set_cons_zero]; rfl)) ?_; simp only [Act.put, List.setIfInBounds_toArray, List.set_cons_succ, List.set_cons_zero])
    (refine wpRel_pur rfl rfl (fun x => by ((go_wp2); refine relEnd_pur rfl ?_ (by repeat (first | exact bR | refine bO ?_ | refine bA ?_ | refine bS ?_ | refine bD ?_ | refine bN ?_)); simp only [Act.put, List.setIfInBounds_toArray, List.set_cons_succ, List.set_cons_zero]; rfl)) ?_; simp only [Act.put, List.setIfInBounds_toArray, List.set_cons_succ, List.set_cons_zero])
    (refine wpRel_pur rfl rfl (fun x => by ((go_wp2); refine relEnd_pur rfl ?_ (by repeat (first | exact bR | refine bO ?_ | refine bA ?_ | refine bS ?_ | refine bD ?_ | refine bN ?_)); simp only [Act.put, List.setIfInBounds_toArray, List.set_cons_succ, List.set_cons_zero]; rfl)) ?_; simp only [Act.put, List.setIfInBounds_toArray, List.set_cons_succ, List.set_cons_zero])
    refine wpRel_al #[.int .i64 0, .int .i64 0, .int .i64 0, .int .i64 0] rfl rfl rfl rfl rfl rfl (fun w => by simp [go_sem]) ?_
    simp only [Act.put, List.setIfInBounds_toArray, List.set_cons_succ, List.set_cons_zero]
    refine wpRel_st rfl rfl rfl rfl rfl rfl (by decide) (by decide) rfl rfl (by kernel_rfl) ⟨rfl, by simp [Value.cells, Value.oneCell']⟩ (by repeat (first | exact all_nil | refine all_cons trivial ?_ | refine all_cons isAl_steady ?_ | refine all_cons (isOw_steady (by assumption)) ?_)) ?_
    (refine wpRel_pur rfl rfl (fun x => by ((go_wp2); refine relEnd_pur rfl ?_ (by repeat (first | exact bR | refine bO ?_ | refine bA ?_ | refine bS ?_ | refine bD ?_ | refine bN ?_)); simp only [Act.put, List.setIfInBounds_toArray, List.set_cons_succ, List.set_cons_zero]; rfl)) ?_; simp only [Act.put, List.setIfInBounds_toArray, List.set_cons_succ, List.set_cons_zero])
    refine wpRelE_nilB0 (fun W1 K hh => ?_)
    obtain ⟨bw, hen, hnb, hx⟩ := isSt_pur (hh 11) rfl rfl rfl
    simp only [hen]
    have Bw := Lib.hid (show W1.heap[bw]? = some (.cells #[.int .i64 r1, .int .i64 r2, .int .i64 r3, .int .i64 r4] 55 (0, 0)) from hx)
    clear hx hnb hen
    clear hh
    clear Brrc0 Brrc1 Brrc2 Brrc3 Brrc4 Brrc5 Brrc6 Brrc7 Bpc0 Bx1c0 Bx1c1 Bx1c2 Brrl Bpl Bx1l
    replace T := T.trans (K.mono T.size)
    replace Brr := box_below Brr K
    replace Bp := box_below Bp K
    replace Bx1 := box_below Bx1 K
    clear K Srr Sp
    have Srr := Rrr.below (TV.trans (T.mono s0))
    have Sp := Rp.below (TV.trans (T.mono s0))
    obtain ⟨Brrc0, Brrc1, Brrc2, Brrc3, Brrc4, Brrc5, Brrc6, Brrc7, Brrl⟩ := cb8 Brr
    obtain ⟨Bpc0, Bpl⟩ := cb1 Bp
    obtain ⟨Bx1c0, Bx1c1, Bx1c2, Bx1l⟩ := cb3 Bx1
    obtain ⟨Bwc0, Bwc1, Bwc2, Bwc3, Bwl⟩ := cb4 Bw
    go_wp2_with fail
    clear Brrc0 Brrc1 Brrc2 Brrc3 Brrc4 Brrc5 Brrc6 Brrc7 Bpc0 Bx1c0 Bx1c1 Bx1c2 Bwc0 Bwc1 Bwc2 Bwc3 Brrl Bpl Bx1l Bwl
    refine (toRoom_any rr (Srr.below (by repeat (first | exact bR | refine bO ?_ | refine bA ?_ | refine bS ?_ | refine bD ?_ | refine bN ?_))) hsrr).mono ?_
    rintro e W2 ⟨axrr1, dxrr1, axrr2, dxrr2, axrr3, dxrr3, rfl, Xxrr, hb⟩
    have K : Below W1.heap.size W1 W2 := Below.trans (by repeat (first | exact bR | refine bO ?_ | refine bA ?_ | refine bS ?_ | refine bD ?_ | refine bN ?_)) (hb.mono (by first | exact Nat.le_refl _ | simp [ov_size]))
    replace Xxrr := Xxrr.weak (B' := V.heap.size) (by have := T.size; simp [ov_size]; omega)
    clear hb
    replace T := T.trans (K.mono T.size)
    replace Brr := box_below Brr K
    replace Bp := box_below Bp K
    replace Bx1 := box_below Bx1 K
    replace Bw := box_below Bw K
    clear K Srr Sp
    have Srr := Rrr.below (TV.trans (T.mono s0))
    have Sp := Rp.below (TV.trans (T.mono s0))
    obtain ⟨Brrc0, Brrc1, Brrc2, Brrc3, Brrc4, Brrc5, Brrc6, Brrc7, Brrl⟩ := cb8 Brr
    obtain ⟨Bpc0, Bpl⟩ := cb1 Bp
    obtain ⟨Bx1c0, Bx1c1, Bx1c2, Bx1l⟩ := cb3 Bx1
    obtain ⟨Bwc0, Bwc1, Bwc2, Bwc3, Bwl⟩ := cb4 Bw
    go_wp2_with fail
    clear Brrc0 Brrc1 Brrc2 Brrc3 Brrc4 Brrc5 Brrc6 Brrc7 Bpc0 Bx1c0 Bx1c1 Bx1c2 Bwc0 Bwc1 Bwc2 Bwc3 Brrl Bpl Bx1l Bwl
    obtain ⟨bxrr, hbx⟩ : ∃ b, b = W2.heap.size := ⟨_, rfl⟩
    rw [← hbx]
    obtain ⟨W3, hW⟩ : ∃ W, W = W2.alloc (.cells #[.slice (some ⟨axrr1, 0, none⟩) rr.m.length dxrr1, .int .i64 rr.q, .int .i64 rr.bx, .int .i64 rr.by_, .int .i64 rr.lo, .int .i64 rr.hi, .slice axrr2 rr.ns.length dxrr2, .slice axrr3 rr.ls.length dxrr3] 39) := ⟨_, rfl⟩
    rw [← hW]
    have K : Below W2.heap.size W2 W3 := by rw [hW]; exact (by repeat (first | exact bR | refine bO ?_ | refine bA ?_ | refine bS ?_ | refine bD ?_ | refine bN ?_))
    have Bxrr := Lib.hid (show W3.heap[bxrr]? = some (.cells #[.slice (some ⟨axrr1, 0, none⟩) rr.m.length dxrr1, .int .i64 rr.q, .int .i64 rr.bx, .int .i64 rr.by_, .int .i64 rr.lo, .int .i64 rr.hi, .slice axrr2 rr.ns.length dxrr2, .slice axrr3 rr.ls.length dxrr3] 39 (0, 0)) by rw [hW, hbx]; exact heap_alloc_new _ _)
    clear hW hbx
    replace T := T.trans (K.mono T.size)
    replace Brr := box_below Brr K
    replace Bp := box_below Bp K
    replace Bx1 := box_below Bx1 K
    replace Bw := box_below Bw K
    replace Xxrr := Xxrr.below K
    clear K Srr Sp
    have Srr := Rrr.below (TV.trans (T.mono s0))
    have Sp := Rp.below (TV.trans (T.mono s0))
    refine (toRegion_any (Sp.below (by repeat (first | exact bR | refine bO ?_ | refine bA ?_ | refine bS ?_ | refine bD ?_ | refine bN ?_))) (by omega)).mono ?_
    rintro e W4 ⟨axp, dxp, rfl, Xxp, hb⟩
    have K : Below W3.heap.size W3 W4 := Below.trans (by repeat (first | exact bR | refine bO ?_ | refine bA ?_ | refine bS ?_ | refine bD ?_ | refine bN ?_)) (hb.mono (by first | exact Nat.le_refl _ | simp [ov_size]))
    replace Xxp := Xxp.weak (B' := V.heap.size) (by have := T.size; simp [ov_size]; omega)
    clear hb
    replace T := T.trans (K.mono T.size)
    replace Brr := box_below Brr K
    replace Bp := box_below Bp K
    replace Bx1 := box_below Bx1 K
    replace Bw := box_below Bw K
    replace Bxrr := box_below Bxrr K
    replace Xxrr := Xxrr.below K
    clear K Srr Sp
    have Srr := Rrr.below (TV.trans (T.mono s0))
    have Sp := Rp.below (TV.trans (T.mono s0))
    obtain ⟨Brrc0, Brrc1, Brrc2, Brrc3, Brrc4, Brrc5, Brrc6, Brrc7, Brrl⟩ := cb8 Brr
    obtain ⟨Bpc0, Bpl⟩ := cb1 Bp
    obtain ⟨Bx1c0, Bx1c1, Bx1c2, Bx1l⟩ := cb3 Bx1
    obtain ⟨Bwc0, Bwc1, Bwc2, Bwc3, Bwl⟩ := cb4 Bw
    obtain ⟨Bxrrc0, Bxrrc1, Bxrrc2, Bxrrc3, Bxrrc4, Bxrrc5, Bxrrc6, Bxrrc7, Bxrrl⟩ := cb8 Bxrr
    go_wp2_with fail
    clear Brrc0 Brrc1 Brrc2 Brrc3 Brrc4 Brrc5 Brrc6 Brrc7 Bpc0 Bx1c0 Bx1c1 Bx1c2 Bwc0 Bwc1 Bwc2 Bwc3 Bxrrc0 Bxrrc1 Bxrrc2 Bxrrc3 Bxrrc4 Bxrrc5 Bxrrc6 Bxrrc7 Brrl Bpl Bx1l Bwl Bxrrl
    obtain ⟨bxp, hbx⟩ : ∃ b, b = W4.heap.size := ⟨_, rfl⟩
    rw [← hbx]
    obtain ⟨W5, hW⟩ : ∃ W, W = W4.alloc (.cells #[.slice axp p.length dxp] 37) := ⟨_, rfl⟩
    rw [← hW]
    have K : Below W4.heap.size W4 W5 := by rw [hW]; exact (by repeat (first | exact bR | refine bO ?_ | refine bA ?_ | refine bS ?_ | refine bD ?_ | refine bN ?_))
    have Bxp := Lib.hid (show W5.heap[bxp]? = some (.cells #[.slice axp p.length dxp] 37 (0, 0)) by rw [hW, hbx]; exact heap_alloc_new _ _)
    clear hW hbx
    replace T := T.trans (K.mono T.size)
    replace Brr := box_below Brr K
    replace Bp := box_below Bp K
    replace Bx1 := box_below Bx1 K
    replace Bw := box_below Bw K
    replace Bxrr := box_below Bxrr K
    replace Xxrr := Xxrr.below K
    replace Xxp := Xxp.below K
    clear K Srr Sp
    have Srr := Rrr.below (TV.trans (T.mono s0))
    have Sp := Rp.below (TV.trans (T.mono s0))
    obtain ⟨Brrc0, Brrc1, Brrc2, Brrc3, Brrc4, Brrc5, Brrc6, Brrc7, Brrl⟩ := cb8 Brr
    obtain ⟨Bpc0, Bpl⟩ := cb1 Bp
    obtain ⟨Bx1c0, Bx1c1, Bx1c2, Bx1l⟩ := cb3 Bx1
    obtain ⟨Bwc0, Bwc1, Bwc2, Bwc3, Bwl⟩ := cb4 Bw
    obtain ⟨Bxrrc0, Bxrrc1, Bxrrc2, Bxrrc3, Bxrrc4, Bxrrc5, Bxrrc6, Bxrrc7, Bxrrl⟩ := cb8 Bxrr
    obtain ⟨Bxpc0, Bxpl⟩ := cb1 Bxp
    refine wp_region_rel [.pur [] ?d2c0, .pur [] ?d2c1, .pur [] ?d2c2, .pur [] ?d2c3, .pur [] ?d2c4, .pur [] ?d2c5, .pur [] ?d2c6, .pur [] ?d2c7, .rel [] [8] false (IsAl 55 4), .rel [8, 6] [8, 6] true (IsSt 55), .pur [] ?d2c10] _ rfl rfl (by kernel_rfl) (by kernel_rfl) ?hstd2 (fun vs => ?walkd2)
    case' walkd2 =>
      (refine wpRel_pur rfl rfl (fun x => by ((go_wp2); refine relEnd_pur rfl ?_ (by repeat (first | exact bR | refine bO ?_ | refine bA ?_ | refine bS ?_ | refine bD ?_ | refine bN ?_)); simp only [Act.put, List.setIfInBounds_toArray, List.set_cons_succ, List.set_cons_zero]; rfl)) ?_; simp only [Act.put, List.setIfInBounds_toArray, List.set_cons_succ, List.set_cons_zero])
      (refine wpRel_pur rfl rfl (fun x => by ((go_wp2); refine relEnd_pur rfl ?_ (by repeat (first | exact bR | refine bO ?_ | refine bA ?_ | refine bS ?_ | refine bD ?_ | refine bN ?_)); simp only [Act.put, List.setIfInBounds_toArray, List.set_cons_succ, List.set_cons_zero]; rfl)) ?_; simp only [Act.put, List.setIfInBounds_toArray, List.set_cons_succ, List.set_cons_zero])
      (refine wpRel_pur rfl rfl (fun x => by ((go_wp2); refine relEnd_pur rfl ?_ (by repeat (first | exact bR | refine bO ?_ | refine bA ?_ | refine bS ?_ | refine bD ?_ | refine bN ?_)); simp only [Act.put, List.setIfInBounds_toArray, List.set_cons_succ, List.set_cons_zero]; rfl)) ?_; simp only [Act.put, List.setIfInBounds_toArray, List.set_cons_succ, List.set_cons_zero])
      (refine wpRel_pur rfl rfl (fun x => by ((go_wp2_with (first | (go_at_call 18; refine (calls_ov (toSpot_any _ _ _ _)).mono ?_; rintro e w' ⟨rfl, x, rfl⟩))); refine relEnd_pur rfl ?_ (by repeat (first | exact bR | refine bO ?_ | refine bA ?_ | refine bS ?_ | refine bD ?_ | refine bN ?_)); simp only [Act.put, List.setIfInBounds_toArray, List.set_cons_succ, List.set_cons_zero]; rfl)) ?_; simp only [Act.put, List.setIfInBounds_toArray, List.set_cons_succ, List.set_cons_zero])
      (refine wpRel_pur rfl rfl (fun x => by ((go_wp2_with (first | (go_at_call 30; refine (calls_ov (impl_AdmitAt_eq ((Xxrr.below (by repeat (first | exact bR | refine bO ?_ | refine bA ?_ | refine bS ?_ | refine bD ?_ | refine bN ?_))).rm) hsrr ((Xxp.below (by repeat (first | exact bR | refine bO ?_ | refine bA ?_ | refine bS ?_ | refine bD ?_ | refine bN ?_))).r3) (by omega) ⟨hx1, hy1, he1⟩ HR)).mono ?_; rintro e w' ⟨rfl, x, rfl⟩))); refine relEnd_pur rfl ?_ (by repeat (first | exact bR | refine bO ?_ | refine bA ?_ | refine bS ?_ | refine bD ?_ | refine bN ?_)); simp only [Act.put, List.setIfInBounds_toArray, List.set_cons_succ, List.set_cons_zero]; rfl)) ?_; simp only [Act.put, List.setIfInBounds_toArray, List.set_cons_succ, List.set_cons_zero])
      (refine wpRel_pur rfl rfl (fun x => by ((go_wp2); refine relEnd_pur rfl ?_ (by repeat (first | exact bR | refine bO ?_ | refine bA ?_ | refine bS ?_ | refine bD ?_ | refine bN ?_)); simp only [Act.put, List.setIfInBounds_toArray, List.set_cons_succ, List.set_cons_zero]; rfl)) ?_; simp only [Act.put, List.setIfInBounds_toArray, List.set_cons_succ, List.set_cons_zero])
      (refine wpRel_pur rfl rfl (fun x => by ((go_wp2); refine relEnd_pur rfl ?_ (by repeat (first | exact bR | refine bO ?_ | refine bA ?_ | refine bS ?_ | refine bD ?_ | refine bN ?_)); simp only [Act.put, List.setIfInBounds_toArray, List.set_cons_succ, List.set_cons_zero]; rfl)) ?_; simp only [Act.put, List.setIfInBounds_toArray, List.set_cons_succ, List.set_cons_zero])
      (refine wpRel_pur rfl rfl (fun x => by ((go_wp2); refine relEnd_pur rfl ?_ (by repeat (first | exact bR | refine bO ?_ | refine bA ?_ | refine bS ?_ | refine bD ?_ | refine bN ?_)); simp only [Act.put, List.setIfInBounds_toArray, List.set_cons_succ, List.set_cons_zero]; rfl)) ?_; simp only [Act.put, List.setIfInBounds_toArray, List.set_cons_succ, List.set_cons_zero])
      refine wpRel_al #[.int .i64 0, .int .i64 0, .int .i64 0, .int .i64 0] rfl rfl rfl rfl rfl rfl (fun w => by simp [go_sem]) ?_
      simp only [Act.put, List.setIfInBounds_toArray, List.set_cons_succ, List.set_cons_zero]
      refine wpRel_st rfl rfl rfl rfl rfl rfl (by decide) (by decide) rfl rfl (by kernel_rfl) ⟨rfl, by simp [Value.cells, Value.oneCell']⟩ (by repeat (first | exact all_nil | refine all_cons trivial ?_ | refine all_cons isAl_steady ?_ | refine all_cons (isOw_steady (by assumption)) ?_)) ?_
      (refine wpRel_pur rfl rfl (fun x => by ((go_wp2); refine relEnd_pur rfl ?_ (by repeat (first | exact bR | refine bO ?_ | refine bA ?_ | refine bS ?_ | refine bD ?_ | refine bN ?_)); simp only [Act.put, List.setIfInBounds_toArray, List.set_cons_succ, List.set_cons_zero]; rfl)) ?_; simp only [Act.put, List.setIfInBounds_toArray, List.set_cons_succ, List.set_cons_zero])
      refine wpRelE_nilB0 (fun W6 K hh => ?_)
      obtain ⟨bg, hen, hnb, hx⟩ := isSt_pur (hh 9) rfl rfl rfl
      simp only [hen]
      have Bg := Lib.hid (show W6.heap[bg]? = some (.cells #[.int .i64 r1, .int .i64 r2, .int .i64 r3, .int .i64 r4] 55 (0, 0)) from hx)
      clear hx hnb hen
      clear hh
      clear Brrc0 Brrc1 Brrc2 Brrc3 Brrc4 Brrc5 Brrc6 Brrc7 Bpc0 Bx1c0 Bx1c1 Bx1c2 Bwc0 Bwc1 Bwc2 Bwc3 Bxrrc0 Bxrrc1 Bxrrc2 Bxrrc3 Bxrrc4 Bxrrc5 Bxrrc6 Bxrrc7 Bxpc0 Brrl Bpl Bx1l Bwl Bxrrl Bxpl
      replace T := T.trans (K.mono T.size)
      replace Brr := box_below Brr K
      replace Bp := box_below Bp K
      replace Bx1 := box_below Bx1 K
      replace Bw := box_below Bw K
      replace Bxrr := box_below Bxrr K
      replace Bxp := box_below Bxp K
      replace Xxrr := Xxrr.below K
      replace Xxp := Xxp.below K
      clear K Srr Sp
      have Srr := Rrr.below (TV.trans (T.mono s0))
      have Sp := Rp.below (TV.trans (T.mono s0))
      obtain ⟨Brrc0, Brrc1, Brrc2, Brrc3, Brrc4, Brrc5, Brrc6, Brrc7, Brrl⟩ := cb8 Brr
      obtain ⟨Bpc0, Bpl⟩ := cb1 Bp
      obtain ⟨Bx1c0, Bx1c1, Bx1c2, Bx1l⟩ := cb3 Bx1
      obtain ⟨Bwc0, Bwc1, Bwc2, Bwc3, Bwl⟩ := cb4 Bw
      obtain ⟨Bxrrc0, Bxrrc1, Bxrrc2, Bxrrc3, Bxrrc4, Bxrrc5, Bxrrc6, Bxrrc7, Bxrrl⟩ := cb8 Bxrr
      obtain ⟨Bxpc0, Bxpl⟩ := cb1 Bxp
      obtain ⟨Bgc0, Bgc1, Bgc2, Bgc3, Bgl⟩ := cb4 Bg
      go_wp2_with fail
      clear Brrc0 Brrc1 Brrc2 Brrc3 Brrc4 Brrc5 Brrc6 Brrc7 Bpc0 Bx1c0 Bx1c1 Bx1c2 Bwc0 Bwc1 Bwc2 Bwc3 Bxrrc0 Bxrrc1 Bxrrc2 Bxrrc3 Bxrrc4 Bxrrc5 Bxrrc6 Bxrrc7 Bxpc0 Bgc0 Bgc1 Bgc2 Bgc3 Brrl Bpl Bx1l Bwl Bxrrl Bxpl Bgl
      refine (calls_ov (eqSpan_same _ _ _ _ _)).mono ?_
      rintro e w' ⟨rfl, x, rfl⟩
      obtain ⟨W7, hW⟩ : ∃ W7, W7 = ov W6 x := ⟨_, rfl⟩
      rw [← hW]
      have K : Below W6.heap.size W6 W7 := by rw [hW]; exact (by repeat (first | exact bR | refine bO ?_ | refine bA ?_ | refine bS ?_ | refine bD ?_ | refine bN ?_))
      clear hW
      replace T := T.trans (K.mono T.size)
      replace Brr := box_below Brr K
      replace Bp := box_below Bp K
      replace Bx1 := box_below Bx1 K
      replace Bw := box_below Bw K
      replace Bxrr := box_below Bxrr K
      replace Bxp := box_below Bxp K
      replace Bg := box_below Bg K
      replace Xxrr := Xxrr.below K
      replace Xxp := Xxp.below K
      clear K Srr Sp
      have Srr := Rrr.below (TV.trans (T.mono s0))
      have Sp := Rp.below (TV.trans (T.mono s0))
      obtain ⟨Brrc0, Brrc1, Brrc2, Brrc3, Brrc4, Brrc5, Brrc6, Brrc7, Brrl⟩ := cb8 Brr
      obtain ⟨Bpc0, Bpl⟩ := cb1 Bp
      obtain ⟨Bx1c0, Bx1c1, Bx1c2, Bx1l⟩ := cb3 Bx1
      obtain ⟨Bwc0, Bwc1, Bwc2, Bwc3, Bwl⟩ := cb4 Bw
      obtain ⟨Bxrrc0, Bxrrc1, Bxrrc2, Bxrrc3, Bxrrc4, Bxrrc5, Bxrrc6, Bxrrc7, Bxrrl⟩ := cb8 Bxrr
      obtain ⟨Bxpc0, Bxpl⟩ := cb1 Bxp
      obtain ⟨Bgc0, Bgc1, Bgc2, Bgc3, Bgl⟩ := cb4 Bg
      go_wp2_with fail
      clear Brrc0 Brrc1 Brrc2 Brrc3 Brrc4 Brrc5 Brrc6 Brrc7 Bpc0 Bx1c0 Bx1c1 Bx1c2 Bwc0 Bwc1 Bwc2 Bwc3 Bxrrc0 Bxrrc1 Bxrrc2 Bxrrc3 Bxrrc4 Bxrrc5 Bxrrc6 Bxrrc7 Bxpc0 Bgc0 Bgc1 Bgc2 Bgc3 Brrl Bpl Bx1l Bwl Bxrrl Bxpl Bgl
      obtain ⟨Brrc0, Brrc1, Brrc2, Brrc3, Brrc4, Brrc5, Brrc6, Brrc7, Brrl⟩ := cb8 Brr
      obtain ⟨Bpc0, Bpl⟩ := cb1 Bp
      obtain ⟨Bx1c0, Bx1c1, Bx1c2, Bx1l⟩ := cb3 Bx1
      obtain ⟨Bwc0, Bwc1, Bwc2, Bwc3, Bwl⟩ := cb4 Bw
      obtain ⟨Bxrrc0, Bxrrc1, Bxrrc2, Bxrrc3, Bxrrc4, Bxrrc5, Bxrrc6, Bxrrc7, Bxrrl⟩ := cb8 Bxrr
      obtain ⟨Bxpc0, Bxpl⟩ := cb1 Bxp
      obtain ⟨Bgc0, Bgc1, Bgc2, Bgc3, Bgl⟩ := cb4 Bg
      refine wp_region_rel [.pur [] ?d3c0, .pur [] ?d3c1, .rel [] [2] false (IsOw (GRoom rr)), .pur [2] ?d3c3, .pur [] ?d3c4] _ rfl rfl (by kernel_rfl) (by kernel_rfl) ?hstd3 (fun vs => ?walkd3)
      case' walkd3 =>
        (refine wpRel_pur rfl rfl (fun x => by ((go_wp2); refine relEnd_pur rfl ?_ (by repeat (first | exact bR | refine bO ?_ | refine bA ?_ | refine bS ?_ | refine bD ?_ | refine bN ?_)); simp only [Act.put, List.setIfInBounds_toArray, List.set_cons_succ, List.set_cons_zero]; rfl)) ?_; simp only [Act.put, List.setIfInBounds_toArray, List.set_cons_succ, List.set_cons_zero])
        (refine wpRel_pur rfl rfl (fun x => by ((go_wp2); refine relEnd_pur rfl ?_ (by repeat (first | exact bR | refine bO ?_ | refine bA ?_ | refine bS ?_ | refine bD ?_ | refine bN ?_)); simp only [Act.put, List.setIfInBounds_toArray, List.set_cons_succ, List.set_cons_zero]; rfl)) ?_; simp only [Act.put, List.setIfInBounds_toArray, List.set_cons_succ, List.set_cons_zero])
        refine wpRel_own rfl rfl rfl (fun x hh => ?_) ?_
        · go_wp2_with fail
          refine (toRoom_any rr (Srr.below (by repeat (first | exact bR | refine bO ?_ | refine bA ?_ | refine bS ?_ | refine bD ?_ | refine bN ?_))) hsrr).mono ?_
          rintro e w7 ⟨a71, d71, a72, d72, a73, d73, rfl, Q7, hb7⟩
          go_wp2
          refine relEnd_ow rfl rfl ?_ hb7 ⟨a71, d71, a72, d72, a73, d73, rfl, Q7.weak (by rw [ov_size]; omega)⟩
          (simp only [Act.put, List.setIfInBounds_toArray, List.set_cons_succ, List.set_cons_zero] <;> rfl)
        simp only [Act.put, List.setIfInBounds_toArray, List.set_cons_succ, List.set_cons_zero]
        (refine wpRel_purn rfl rfl (fun x hh => by ((obtain ⟨ao21, do21, ao22, do22, ao23, do23, f2, Qo2⟩ := isOw_at (hh 2 (by simp)) rfl; simp only [f2]); (go_wp2_with (first | (go_at_call 22; refine (calls_ov (eqRoom_same (by exact (Xxrr.below (by repeat (first | exact bR | refine bO ?_ | refine bA ?_ | refine bS ?_ | refine bD ?_ | refine bN ?_))).rm) (by first | exact (Qo2.below (by repeat (first | exact bR | refine bO ?_ | refine bA ?_ | refine bS ?_ | refine bD ?_ | refine bN ?_))).rm | exact Qo2.rm) hsrr)).mono ?_; rintro e w' ⟨rfl, x, rfl⟩))); refine relEnd_pur rfl ?_ (by repeat (first | exact bR | refine bO ?_ | refine bA ?_ | refine bS ?_ | refine bD ?_ | refine bN ?_)); simp only [Act.put, List.setIfInBounds_toArray, List.set_cons_succ, List.set_cons_zero]; rfl)) ?_; simp only [Act.put, List.setIfInBounds_toArray, List.set_cons_succ, List.set_cons_zero])
        (refine wpRel_pur rfl rfl (fun x => by ((go_wp2); refine relEnd_pur rfl ?_ (by repeat (first | exact bR | refine bO ?_ | refine bA ?_ | refine bS ?_ | refine bD ?_ | refine bN ?_)); simp only [Act.put, List.setIfInBounds_toArray, List.set_cons_succ, List.set_cons_zero]; rfl)) ?_; simp only [Act.put, List.setIfInBounds_toArray, List.set_cons_succ, List.set_cons_zero])
        refine wpRelE_nilB0 (fun W8 K hh => ?_)
        clear hh
        clear Brrc0 Brrc1 Brrc2 Brrc3 Brrc4 Brrc5 Brrc6 Brrc7 Bpc0 Bx1c0 Bx1c1 Bx1c2 Bwc0 Bwc1 Bwc2 Bwc3 Bxrrc0 Bxrrc1 Bxrrc2 Bxrrc3 Bxrrc4 Bxrrc5 Bxrrc6 Bxrrc7 Bxpc0 Bgc0 Bgc1 Bgc2 Bgc3 Brrl Bpl Bx1l Bwl Bxrrl Bxpl Bgl
        replace T := T.trans (K.mono T.size)
        replace Brr := box_below Brr K
        replace Bp := box_below Bp K
        replace Bx1 := box_below Bx1 K
        replace Bw := box_below Bw K
        replace Bxrr := box_below Bxrr K
        replace Bxp := box_below Bxp K
        replace Bg := box_below Bg K
        replace Xxrr := Xxrr.below K
        replace Xxp := Xxp.below K
        clear K Srr Sp
        have Srr := Rrr.below (TV.trans (T.mono s0))
        have Sp := Rp.below (TV.trans (T.mono s0))
        obtain ⟨Brrc0, Brrc1, Brrc2, Brrc3, Brrc4, Brrc5, Brrc6, Brrc7, Brrl⟩ := cb8 Brr
        obtain ⟨Bpc0, Bpl⟩ := cb1 Bp
        obtain ⟨Bx1c0, Bx1c1, Bx1c2, Bx1l⟩ := cb3 Bx1
        obtain ⟨Bwc0, Bwc1, Bwc2, Bwc3, Bwl⟩ := cb4 Bw
        obtain ⟨Bxrrc0, Bxrrc1, Bxrrc2, Bxrrc3, Bxrrc4, Bxrrc5, Bxrrc6, Bxrrc7, Bxrrl⟩ := cb8 Bxrr
        obtain ⟨Bxpc0, Bxpl⟩ := cb1 Bxp
        obtain ⟨Bgc0, Bgc1, Bgc2, Bgc3, Bgl⟩ := cb4 Bg
        go_wp2_with fail
        clear Brrc0 Brrc1 Brrc2 Brrc3 Brrc4 Brrc5 Brrc6 Brrc7 Bpc0 Bx1c0 Bx1c1 Bx1c2 Bwc0 Bwc1 Bwc2 Bwc3 Bxrrc0 Bxrrc1 Bxrrc2 Bxrrc3 Bxrrc4 Bxrrc5 Bxrrc6 Bxrrc7 Bxpc0 Bgc0 Bgc1 Bgc2 Bgc3 Brrl Bpl Bx1l Bwl Bxrrl Bxpl Bgl
        obtain ⟨Brrc0, Brrc1, Brrc2, Brrc3, Brrc4, Brrc5, Brrc6, Brrc7, Brrl⟩ := cb8 Brr
        obtain ⟨Bpc0, Bpl⟩ := cb1 Bp
        obtain ⟨Bx1c0, Bx1c1, Bx1c2, Bx1l⟩ := cb3 Bx1
        obtain ⟨Bwc0, Bwc1, Bwc2, Bwc3, Bwl⟩ := cb4 Bw
        obtain ⟨Bxrrc0, Bxrrc1, Bxrrc2, Bxrrc3, Bxrrc4, Bxrrc5, Bxrrc6, Bxrrc7, Bxrrl⟩ := cb8 Bxrr
        obtain ⟨Bxpc0, Bxpl⟩ := cb1 Bxp
        obtain ⟨Bgc0, Bgc1, Bgc2, Bgc3, Bgl⟩ := cb4 Bg
        refine wp_region_rel [.pur [] ?d4c0, .pur [] ?d4c1, .rel [] [2] false (IsOw (GReg p)), .pur [2] ?d4c3, .pur [] ?d4c4] _ rfl rfl (by kernel_rfl) (by kernel_rfl) ?hstd4 (fun vs => ?walkd4)
        case' walkd4 =>
          (refine wpRel_pur rfl rfl (fun x => by ((go_wp2); refine relEnd_pur rfl ?_ (by repeat (first | exact bR | refine bO ?_ | refine bA ?_ | refine bS ?_ | refine bD ?_ | refine bN ?_)); simp only [Act.put, List.setIfInBounds_toArray, List.set_cons_succ, List.set_cons_zero]; rfl)) ?_; simp only [Act.put, List.setIfInBounds_toArray, List.set_cons_succ, List.set_cons_zero])
          (refine wpRel_pur rfl rfl (fun x => by ((go_wp2); refine relEnd_pur rfl ?_ (by repeat (first | exact bR | refine bO ?_ | refine bA ?_ | refine bS ?_ | refine bD ?_ | refine bN ?_)); simp only [Act.put, List.setIfInBounds_toArray, List.set_cons_succ, List.set_cons_zero]; rfl)) ?_; simp only [Act.put, List.setIfInBounds_toArray, List.set_cons_succ, List.set_cons_zero])
          refine wpRel_own rfl rfl rfl (fun x hh => ?_) ?_
          · go_wp2_with fail
            refine (toRegion_any (Sp.below (by repeat (first | exact bR | refine bO ?_ | refine bA ?_ | refine bS ?_ | refine bD ?_ | refine bN ?_))) (by omega)).mono ?_
            rintro e w7 ⟨a7, d7, rfl, Q7, hb7⟩
            go_wp2
            refine relEnd_ow rfl rfl ?_ hb7 ⟨a7, d7, rfl, Q7.weak (by rw [ov_size]; omega)⟩
            (simp only [Act.put, List.setIfInBounds_toArray, List.set_cons_succ, List.set_cons_zero] <;> rfl)
          simp only [Act.put, List.setIfInBounds_toArray, List.set_cons_succ, List.set_cons_zero]
          (refine wpRel_purn rfl rfl (fun x hh => by ((obtain ⟨ao2, do2, f2, Qo2⟩ := isOw_at (hh 2 (by simp)) rfl; simp only [f2]); (go_wp2_with (first | (go_at_call 23; refine (calls_ov (eqRegion_same (by first | exact ((Xxp.below (by repeat (first | exact bR | refine bO ?_ | refine bA ?_ | refine bS ?_ | refine bD ?_ | refine bN ?_))).r3) | exact Xxp.r3) (by first | exact ((Qo2.below (by repeat (first | exact bR | refine bO ?_ | refine bA ?_ | refine bS ?_ | refine bD ?_ | refine bN ?_))).r3) | exact Qo2.r3) (by omega))).mono ?_; rintro e w' ⟨rfl, x, rfl⟩))); refine relEnd_pur rfl ?_ (by repeat (first | exact bR | refine bO ?_ | refine bA ?_ | refine bS ?_ | refine bD ?_ | refine bN ?_)); simp only [Act.put, List.setIfInBounds_toArray, List.set_cons_succ, List.set_cons_zero]; rfl)) ?_; simp only [Act.put, List.setIfInBounds_toArray, List.set_cons_succ, List.set_cons_zero])
          (refine wpRel_pur rfl rfl (fun x => by ((go_wp2); refine relEnd_pur rfl ?_ (by repeat (first | exact bR | refine bO ?_ | refine bA ?_ | refine bS ?_ | refine bD ?_ | refine bN ?_)); simp only [Act.put, List.setIfInBounds_toArray, List.set_cons_succ, List.set_cons_zero]; rfl)) ?_; simp only [Act.put, List.setIfInBounds_toArray, List.set_cons_succ, List.set_cons_zero])
          refine wpRelE_nilB0 (fun W9 K hh => ?_)
          clear hh
          clear Brrc0 Brrc1 Brrc2 Brrc3 Brrc4 Brrc5 Brrc6 Brrc7 Bpc0 Bx1c0 Bx1c1 Bx1c2 Bwc0 Bwc1 Bwc2 Bwc3 Bxrrc0 Bxrrc1 Bxrrc2 Bxrrc3 Bxrrc4 Bxrrc5 Bxrrc6 Bxrrc7 Bxpc0 Bgc0 Bgc1 Bgc2 Bgc3 Brrl Bpl Bx1l Bwl Bxrrl Bxpl Bgl
          replace T := T.trans (K.mono T.size)
          replace Brr := box_below Brr K
          replace Bp := box_below Bp K
          replace Bx1 := box_below Bx1 K
          replace Bw := box_below Bw K
          replace Bxrr := box_below Bxrr K
          replace Bxp := box_below Bxp K
          replace Bg := box_below Bg K
          replace Xxrr := Xxrr.below K
          replace Xxp := Xxp.below K
          clear K Srr Sp
          have Srr := Rrr.below (TV.trans (T.mono s0))
          have Sp := Rp.below (TV.trans (T.mono s0))
          obtain ⟨Brrc0, Brrc1, Brrc2, Brrc3, Brrc4, Brrc5, Brrc6, Brrc7, Brrl⟩ := cb8 Brr
          obtain ⟨Bpc0, Bpl⟩ := cb1 Bp
          obtain ⟨Bx1c0, Bx1c1, Bx1c2, Bx1l⟩ := cb3 Bx1
          obtain ⟨Bwc0, Bwc1, Bwc2, Bwc3, Bwl⟩ := cb4 Bw
          obtain ⟨Bxrrc0, Bxrrc1, Bxrrc2, Bxrrc3, Bxrrc4, Bxrrc5, Bxrrc6, Bxrrc7, Bxrrl⟩ := cb8 Bxrr
          obtain ⟨Bxpc0, Bxpl⟩ := cb1 Bxp
          obtain ⟨Bgc0, Bgc1, Bgc2, Bgc3, Bgl⟩ := cb4 Bg
          go_wp2
          go_ret
          exact ⟨rfl, (by repeat (first | exact TV.trans (T.mono s0) | refine bO ?_ | refine bA ?_ | refine bS ?_ | refine bD ?_ | refine bN ?_))⟩
        case' hstd4 => exact (by repeat (first | exact all_nil | refine all_cons trivial ?_ | refine all_cons isAl_stable ?_ | refine all_cons isSt_stable ?_ | refine all_cons isStB_stable ?_ | refine all_cons (isOw_stable (by assumption)) ?_))
      case' hstd3 => exact (by repeat (first | exact all_nil | refine all_cons trivial ?_ | refine all_cons isAl_stable ?_ | refine all_cons isSt_stable ?_ | refine all_cons isStB_stable ?_ | refine all_cons (isOw_stable (by assumption)) ?_))
    case' hstd2 => exact (by repeat (first | exact all_nil | refine all_cons trivial ?_ | refine all_cons isAl_stable ?_ | refine all_cons isSt_stable ?_ | refine all_cons isStB_stable ?_ | refine all_cons (isOw_stable (by assumption)) ?_))
  case' hstd1 => exact (by repeat (first | exact all_nil | refine all_cons trivial ?_ | refine all_cons isAl_stable ?_ | refine all_cons isSt_stable ?_ | refine all_cons isStB_stable ?_ | refine all_cons (isOw_stable (by assumption)) ?_))
set_option maxRecDepth 100000 in
theorem FnExactAdmitAt_lifted (os : Os) (started : os.Started) (H : Type) (enc : TypeId × Value → H) :
    ReturnsInHanded {} Tryz.checked os 5 .any (Rows.fnExactAdmitAtSpec.pre6 enc Tryz.prog Tryz.f5 Rows.fnExactAdmitAtRow.domain false) (Rows.fnExactAdmitAtSpec.post enc Tryz.prog Tryz.f5 false true false false) := by
  refine returnsInHanded_of_change (C := Tryz.checked) own started (by kernel_rfl) Tryz.func5
    (ChangeSpec.witness6 (enc := enc) (C := Tryz.checked) false ⟨#[], #[.agg #[.slice none 0 0, .int .i64 0, .int .i64 0, .int .i64 0, .int .i64 0, .int .i64 0, .slice none 0 0, .slice none 0 0], .agg #[.slice none 0 0], .agg #[.int .i64 0, .int .i64 0, .int .i64 0]], []⟩ 8 (by kernel_rfl) (by kernel_rfl) (by kernel_rfl) (by kernel_rfl)) ?_
  intro W base args ds gs before hval0 hW hcnd _
  have hval : ∀ (j : Nat) t v, Tryz.f5.params[j]? = some t → args[j]? = some v → Value.okWide Tryz.prog W .any base t v := hval0
  have hW' := hW
  obtain ⟨p, q, hA0, hV, rfl, hfz, hnd⟩ := hW
  have hA : DataW.TrodAll enc Tryz.prog W 0 (fun _ => true) true Tryz.f5.params.toList args.toList ds p := hA0
  rw [Tryz.params5] at hA hval
  obtain ⟨v0, vs0, d0, ds0, p0, q0, hargs0, rfl, rfl, h0, r0⟩ := trodAll_cons hA
  obtain ⟨v1, vs1, d1, ds1, p1, q1, hargs1, rfl, rfl, h1, r1⟩ := trodAll_cons r0
  obtain ⟨v2, vs2, d2, ds2, p2, q2, hargs2, rfl, rfl, h2, r2⟩ := trodAll_cons r1
  obtain ⟨rfl, rfl, rfl⟩ := trodAll_nil r2
  obtain rfl : args = #[v0, v1, v2] := by cases args; simp_all
  obtain ⟨rfl, rfl⟩ := trodVars_none hV
  have k0 := h0
  have lt0 : ∀ x ∈ p0, x.block < W.heap.size := by obtain ⟨m, hm⟩ := k0; exact DataW.trod_lt m _ _ _ hm
  have k1 := h1
  have lt1 : ∀ x ∈ p1, x.block < W.heap.size := by obtain ⟨m, hm⟩ := k1; exact DataW.trod_lt m _ _ _ hm
  have k2 := h2
  have lt2 : ∀ x ∈ p2, x.block < W.heap.size := by obtain ⟨m, hm⟩ := k2; exact DataW.trod_lt m _ _ _ hm
  have hv0 := hval 0 27 v0 rfl rfl
  have hv1 := hval 1 25 v1 rfl rfl
  have hv2 := hval 2 29 v2 rfl rfl
  obtain ⟨r0, A01, A02, A03, c01, c02, c03, rfl, RR0, hlen0⟩ := open_room hv0 h0
  obtain ⟨A1, c1, hs1, rfl, RR1, hlen1⟩ := open_region hv1 h1
  obtain ⟨x2, y2, d2, rfl, bx2, bY2, bd2⟩ := open_spot hv2 h2
  clear hA0 hval0
  refine (law45_any W RR0 hlen0 RR1 hlen1 bx2 bY2 bd2).mono fun e W' ⟨he, bel⟩ => ?_
  subst he
  exact ⟨_, rfl, _, _, _, [], _, [], hW', trodAll_mk1 (shut_bool Tryz.underlying4 _), (trodAll_cons_mk (Below.trod laidOut (by kernel_rfl) (of_decide_eq_true (by kernel_rfl)) k0 bel lt0) (trodAll_cons_mk (Below.trod laidOut (by kernel_rfl) (of_decide_eq_true (by kernel_rfl)) k1 bel lt1) (trodAll_cons_mk (Below.trod laidOut (by kernel_rfl) (of_decide_eq_true (by kernel_rfl)) k2 bel lt2) trodAll_mk0))), rfl, bel.frame _, fun h => by cases h⟩

theorem FnExactAdmitAt_holds : Rows.FnExactAdmitAtSaid :=
  OpenClaim.holds_of_wide 5 Tryz.f5 rfl rfl rfl rfl rfl rfl rfl ⟨rfl, rfl, rfl, rfl, rfl⟩ rfl rfl rfl rfl rfl (by kernel_rfl) Tryz.func5 (by kernel_rfl)
    (of_decide_eq_true (by kernel_rfl)) (by unfold Func.isWrapper; first | (rw [if_pos (by decide +kernel)]; kernel_rfl) | (rw [if_neg (by decide +kernel)]; exact ⟨rfl, rfl⟩))
    (fun os started H enc _ => FnExactAdmitAt_lifted os started H enc)
#print axioms FnExactAdmitAt_holds

end Go.Proofs.YtgdleimdenbnlaaGreat
