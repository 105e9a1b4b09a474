/- FnExactShiftRegion returns true for every argument, and leaves it as it was. No condition. -/
import Derived.Test.YtnenlgaafiifpaaSf
set_option linter.unusedVariables false
set_option linter.unusedSimpArgs false
set_option linter.unusedSectionVars false
namespace Go.Proofs.Ytnenlgaafiifpaa
open Go.ChangeShapes Go.WideShapes Go.ChangeAt Go.RowKit Go.Joins

set_option maxRecDepth 100000 in
set_option maxHeartbeats 8000000 in
theorem law22_any {p : List H3} {A : Option Addr} {c : Nat} {dx dy : Int} (w : World) (R : RL w A p) (hl : p.length ≤ 9223372036854775807) (hdx : -9223372036854775808 ≤ dx ∧ dx ≤ 9223372036854775807) (hdy : -9223372036854775808 ≤ dy ∧ dy ≤ 9223372036854775807) :
    Calls Try.prog 8 #[.agg #[.slice A p.length c], .int .i64 dx, .int .i64 dy] w fun e w' => e = .returned (.bool true) ∧ Below w.heap.size w w' := by
  obtain ⟨z, hz⟩ : ∃ z, szL p.length 1048576 = z := ⟨_, rfl⟩
  have HZ := Lib.hid hz
  by_cases hc : z < 0
  · clear hz
    go_enter Try.func8, Try.ntmps8
    go_wp2_with ((go_at_call 15; (first | (with_reducible refine (calls_ov2 (szRegion_eq (by exact HZ) hl ⟨by omega, by omega⟩)).mono ?_) | refine (calls_ov (szRegion_eq (by exact HZ) hl ⟨by omega, by omega⟩)).mono ?_); rintro e w' ⟨rfl, x, rfl⟩))
    go_ret
    exact ⟨rfl, (by repeat (first | exact Below.refl _ _ | refine below_ov _ _ ?_ (by first | omega | (simp [ov_size] <;> omega)) | refine Below.alloc ?_ (by first | omega | (simp [ov_size] <;> omega)) _ | refine Below.setCell ?_ (by first | omega | (simp [ov_size] <;> omega)) _ | refine Below.drew ?_ | refine below_drewN ?_ _))⟩
  have hm1 : p.length ≤ 1048576 := by unfold szL at hz; split at hz <;> omega
  obtain ⟨⟨out, ok⟩, hr⟩ : ∃ r, shiftR dx dy p = r := ⟨_, rfl⟩
  have ho := shiftR_short hr
  have HR := Lib.hid hr
  have OR := owned_reg p
  have OO := owned_reg out
  have OT := owned_tup out ok
  clear hr hz
  go_enter Try.func8, Try.ntmps8
  go_wp2_with ((go_at_call 15; (first | (with_reducible refine (calls_ov2 (szRegion_eq (by exact HZ) (by omega) ⟨by omega, by omega⟩)).mono ?_) | refine (calls_ov (szRegion_eq (by exact HZ) (by omega) ⟨by omega, by omega⟩)).mono ?_); rintro e w' ⟨rfl, x, rfl⟩))
  obtain ⟨V, hV⟩ : ∃ V, w.alloc (.cells #[.slice A p.length c] 24) = V := ⟨_, rfl⟩
  have TV : Below w.heap.size w V := by rw [← hV]; exact (by repeat (first | exact Below.refl _ _ | refine below_ov _ _ ?_ (by first | omega | (simp [ov_size] <;> omega)) | refine Below.alloc ?_ (by first | omega | (simp [ov_size] <;> omega)) _ | refine Below.setCell ?_ (by first | omega | (simp [ov_size] <;> omega)) _ | refine Below.drew ?_ | refine below_drewN ?_ _))
  have X0 : V.heap[w.heap.size]? = some (.cells #[.slice A p.length c] 24 (0, 0)) := by rw [← hV]; exact heap_alloc_new _ _
  rw [hV]
  clear hV
  obtain ⟨W0, hW⟩ : ∃ W0, W0 = ov V x := ⟨_, rfl⟩
  rw [← hW]
  have T : Below V.heap.size V W0 := by rw [hW]; exact (by repeat (first | exact Below.refl _ _ | refine below_ov _ _ ?_ (by first | omega | (simp [ov_size] <;> omega)) | refine Below.alloc ?_ (by first | omega | (simp [ov_size] <;> omega)) _ | refine Below.setCell ?_ (by first | omega | (simp [ov_size] <;> omega)) _ | refine Below.drew ?_ | refine below_drewN ?_ _))
  clear hW
  have B0 := box_below (Lib.hid X0) T
  clear X0
  have s0 : w.heap.size ≤ V.heap.size := TV.size
  have S := R.below (TV.trans (T.mono s0))
  refine (toRegion_any (S.below (by repeat (first | exact Below.refl _ _ | refine below_ov _ _ ?_ (by first | omega | (simp [ov_size] <;> omega)) | refine Below.alloc ?_ (by first | omega | (simp [ov_size] <;> omega)) _ | refine Below.setCell ?_ (by first | omega | (simp [ov_size] <;> omega)) _ | refine Below.drew ?_ | refine below_drewN ?_ _))) (by omega)).mono ?_
  rintro e W1 ⟨au, du, rfl, Xu, hb⟩
  have K : Below W0.heap.size W0 W1 := Below.trans (by repeat (first | exact Below.refl _ _ | refine below_ov _ _ ?_ (by first | omega | (simp [ov_size] <;> omega)) | refine Below.alloc ?_ (by first | omega | (simp [ov_size] <;> omega)) _ | refine Below.setCell ?_ (by first | omega | (simp [ov_size] <;> omega)) _ | refine Below.drew ?_ | refine below_drewN ?_ _)) (hb.mono (by simp [ov_size]))
  replace Xu := Xu.weak (B' := V.heap.size) (by have := T.size; simp [ov_size]; omega)
  clear hb
  replace T := T.trans (K.mono T.size)
  replace B0 := box_below B0 K
  clear K S
  have S := R.below (TV.trans (T.mono s0))
  have B0c0 := cell_blk (j := 0) (v := .slice A p.length c) B0.out rfl
  have B0l := (Array.getElem?_eq_some_iff.1 B0.out).1
  go_wp2_with fail
  clear B0c0 B0l
  refine (spec_ShiftRegion_eq ((Xu.below (by repeat (first | exact Below.refl _ _ | refine below_ov _ _ ?_ (by first | omega | (simp [ov_size] <;> omega)) | refine Below.alloc ?_ (by first | omega | (simp [ov_size] <;> omega)) _ | refine Below.setCell ?_ (by first | omega | (simp [ov_size] <;> omega)) _ | refine Below.drew ?_ | refine below_drewN ?_ _))).r3) (by omega) hdx hdy HR).mono ?_
  rintro e W2 ⟨aw, dw, rfl, Xw, hb⟩
  have apXuw := apart_new Xu Xw (by simp [ov_size])
  have K : Below W1.heap.size W1 W2 := Below.trans (by repeat (first | exact Below.refl _ _ | refine below_ov _ _ ?_ (by first | omega | (simp [ov_size] <;> omega)) | refine Below.alloc ?_ (by first | omega | (simp [ov_size] <;> omega)) _ | refine Below.setCell ?_ (by first | omega | (simp [ov_size] <;> omega)) _ | refine Below.drew ?_ | refine below_drewN ?_ _)) (hb.mono (by simp [ov_size]))
  replace Xw := Xw.weak (B' := V.heap.size) (by have := T.size; simp [ov_size]; omega)
  clear hb
  replace T := T.trans (K.mono T.size)
  replace B0 := box_below B0 K
  replace Xu := Xu.below K
  clear K S
  have S := R.below (TV.trans (T.mono s0))
  clear Xu
  have B0c0 := cell_blk (j := 0) (v := .slice A p.length c) B0.out rfl
  have B0l := (Array.getElem?_eq_some_iff.1 B0.out).1
  go_wp2_with fail
  obtain ⟨bw, hbx⟩ : ∃ b, b = W2.heap.size := ⟨_, rfl⟩
  rw [← hbx]
  obtain ⟨W3, hW⟩ : ∃ W, W = W2.alloc (.cells #[.slice aw out.length dw] 28) := ⟨_, rfl⟩
  rw [← hW]
  have K : Below W2.heap.size W2 W3 := by rw [hW]; exact (by repeat (first | exact Below.refl _ _ | refine below_ov _ _ ?_ (by first | omega | (simp [ov_size] <;> omega)) | refine Below.alloc ?_ (by first | omega | (simp [ov_size] <;> omega)) _ | refine Below.setCell ?_ (by first | omega | (simp [ov_size] <;> omega)) _ | refine Below.drew ?_ | refine below_drewN ?_ _))
  have Bw := Lib.hid (show W3.heap[bw]? = some (.cells #[.slice aw out.length dw] 28 (0, 0)) by rw [hW, hbx]; exact heap_alloc_new _ _)
  clear hW hbx
  clear B0c0 B0l
  replace T := T.trans (K.mono T.size)
  replace B0 := box_below B0 K
  replace Xw := Xw.below K
  clear K S
  have S := R.below (TV.trans (T.mono s0))
  refine (toRegion_any (S.below (by repeat (first | exact Below.refl _ _ | refine below_ov _ _ ?_ (by first | omega | (simp [ov_size] <;> omega)) | refine Below.alloc ?_ (by first | omega | (simp [ov_size] <;> omega)) _ | refine Below.setCell ?_ (by first | omega | (simp [ov_size] <;> omega)) _ | refine Below.drew ?_ | refine below_drewN ?_ _))) (by omega)).mono ?_
  rintro e W4 ⟨ax, dx, rfl, Xx, hb⟩
  have apXwx := apart_new Xw Xx (by simp [ov_size])
  have K : Below W3.heap.size W3 W4 := Below.trans (by repeat (first | exact Below.refl _ _ | refine below_ov _ _ ?_ (by first | omega | (simp [ov_size] <;> omega)) | refine Below.alloc ?_ (by first | omega | (simp [ov_size] <;> omega)) _ | refine Below.setCell ?_ (by first | omega | (simp [ov_size] <;> omega)) _ | refine Below.drew ?_ | refine below_drewN ?_ _)) (hb.mono (by simp [ov_size]))
  replace Xx := Xx.weak (B' := V.heap.size) (by have := T.size; simp [ov_size]; omega)
  clear hb
  replace T := T.trans (K.mono T.size)
  replace B0 := box_below B0 K
  replace Bw := box_below Bw K
  replace Xw := Xw.below K
  clear K S
  have S := R.below (TV.trans (T.mono s0))
  have B0c0 := cell_blk (j := 0) (v := .slice A p.length c) B0.out rfl
  have B0l := (Array.getElem?_eq_some_iff.1 B0.out).1
  have Bwc0 := cell_blk (j := 0) (v := .slice aw out.length dw) Bw.out rfl
  have Bwl := (Array.getElem?_eq_some_iff.1 Bw.out).1
  go_wp2_with fail
  obtain ⟨bx, hbx⟩ : ∃ b, b = W4.heap.size := ⟨_, rfl⟩
  rw [← hbx]
  obtain ⟨W5, hW⟩ : ∃ W, W = W4.alloc (.cells #[.slice ax p.length dx] 28) := ⟨_, rfl⟩
  rw [← hW]
  have K : Below W4.heap.size W4 W5 := by rw [hW]; exact (by repeat (first | exact Below.refl _ _ | refine below_ov _ _ ?_ (by first | omega | (simp [ov_size] <;> omega)) | refine Below.alloc ?_ (by first | omega | (simp [ov_size] <;> omega)) _ | refine Below.setCell ?_ (by first | omega | (simp [ov_size] <;> omega)) _ | refine Below.drew ?_ | refine below_drewN ?_ _))
  have Bx := Lib.hid (show W5.heap[bx]? = some (.cells #[.slice ax p.length dx] 28 (0, 0)) by rw [hW, hbx]; exact heap_alloc_new _ _)
  clear hW hbx
  clear B0c0 Bwc0 B0l Bwl
  replace T := T.trans (K.mono T.size)
  replace B0 := box_below B0 K
  replace Bw := box_below Bw K
  replace Xw := Xw.below K
  replace Xx := Xx.below K
  clear K S
  have S := R.below (TV.trans (T.mono s0))
  refine (impl_ShiftRegion_eq ((Xx.below (by repeat (first | exact Below.refl _ _ | refine below_ov _ _ ?_ (by first | omega | (simp [ov_size] <;> omega)) | refine Below.alloc ?_ (by first | omega | (simp [ov_size] <;> omega)) _ | refine Below.setCell ?_ (by first | omega | (simp [ov_size] <;> omega)) _ | refine Below.drew ?_ | refine below_drewN ?_ _))).r3) (by omega) hdx hdy HR).mono ?_
  rintro e W6 ⟨ag, dg, rfl, Xg, hb⟩
  have apXwg := apart_new Xw Xg (by simp [ov_size])
  have apXxg := apart_new Xx Xg (by simp [ov_size])
  have K : Below W5.heap.size W5 W6 := Below.trans (by repeat (first | exact Below.refl _ _ | refine below_ov _ _ ?_ (by first | omega | (simp [ov_size] <;> omega)) | refine Below.alloc ?_ (by first | omega | (simp [ov_size] <;> omega)) _ | refine Below.setCell ?_ (by first | omega | (simp [ov_size] <;> omega)) _ | refine Below.drew ?_ | refine below_drewN ?_ _)) (hb.mono (by simp [ov_size]))
  replace Xg := Xg.weak (B' := V.heap.size) (by have := T.size; simp [ov_size]; omega)
  clear hb
  replace T := T.trans (K.mono T.size)
  replace B0 := box_below B0 K
  replace Bw := box_below Bw K
  replace Bx := box_below Bx K
  replace Xw := Xw.below K
  replace Xx := Xx.below K
  clear K S
  have S := R.below (TV.trans (T.mono s0))
  have B0c0 := cell_blk (j := 0) (v := .slice A p.length c) B0.out rfl
  have B0l := (Array.getElem?_eq_some_iff.1 B0.out).1
  have Bwc0 := cell_blk (j := 0) (v := .slice aw out.length dw) Bw.out rfl
  have Bwl := (Array.getElem?_eq_some_iff.1 Bw.out).1
  have Bxc0 := cell_blk (j := 0) (v := .slice ax p.length dx) Bx.out rfl
  have Bxl := (Array.getElem?_eq_some_iff.1 Bx.out).1
  go_wp2_with fail
  obtain ⟨bg, hbx⟩ : ∃ b, b = W6.heap.size := ⟨_, rfl⟩
  rw [← hbx]
  obtain ⟨W7, hW⟩ : ∃ W, W = W6.alloc (.cells #[.slice ag out.length dg] 28) := ⟨_, rfl⟩
  rw [← hW]
  have K : Below W6.heap.size W6 W7 := by rw [hW]; exact (by repeat (first | exact Below.refl _ _ | refine below_ov _ _ ?_ (by first | omega | (simp [ov_size] <;> omega)) | refine Below.alloc ?_ (by first | omega | (simp [ov_size] <;> omega)) _ | refine Below.setCell ?_ (by first | omega | (simp [ov_size] <;> omega)) _ | refine Below.drew ?_ | refine below_drewN ?_ _))
  have Bg := Lib.hid (show W7.heap[bg]? = some (.cells #[.slice ag out.length dg] 28 (0, 0)) by rw [hW, hbx]; exact heap_alloc_new _ _)
  clear hW hbx
  clear B0c0 Bwc0 Bxc0 B0l Bwl Bxl
  replace T := T.trans (K.mono T.size)
  replace B0 := box_below B0 K
  replace Bw := box_below Bw K
  replace Bx := box_below Bx K
  replace Xw := Xw.below K
  replace Xx := Xx.below K
  replace Xg := Xg.below K
  clear K S
  have S := R.below (TV.trans (T.mono s0))
  have B0c0 := cell_blk (j := 0) (v := .slice A p.length c) B0.out rfl
  have B0l := (Array.getElem?_eq_some_iff.1 B0.out).1
  have Bwc0 := cell_blk (j := 0) (v := .slice aw out.length dw) Bw.out rfl
  have Bwl := (Array.getElem?_eq_some_iff.1 Bw.out).1
  have Bxc0 := cell_blk (j := 0) (v := .slice ax p.length dx) Bx.out rfl
  have Bxl := (Array.getElem?_eq_some_iff.1 Bx.out).1
  have Bgc0 := cell_blk (j := 0) (v := .slice ag out.length dg) Bg.out rfl
  have Bgl := (Array.getElem?_eq_some_iff.1 Bg.out).1
  refine (calls_ov (eqRegion_same (by first | exact ((Xg.below (by repeat (first | exact Below.refl _ _ | refine below_ov _ _ ?_ (by first | omega | (simp [ov_size] <;> omega)) | refine Below.alloc ?_ (by first | omega | (simp [ov_size] <;> omega)) _ | refine Below.setCell ?_ (by first | omega | (simp [ov_size] <;> omega)) _ | refine Below.drew ?_ | refine below_drewN ?_ _))).r3) | exact Xg.r3) (by first | exact ((Xw.below (by repeat (first | exact Below.refl _ _ | refine below_ov _ _ ?_ (by first | omega | (simp [ov_size] <;> omega)) | refine Below.alloc ?_ (by first | omega | (simp [ov_size] <;> omega)) _ | refine Below.setCell ?_ (by first | omega | (simp [ov_size] <;> omega)) _ | refine Below.drew ?_ | refine below_drewN ?_ _))).r3) | exact Xw.r3) (by omega))).mono ?_
  rintro e w' ⟨rfl, x, rfl⟩
  go_wp2_with fail
  clear B0c0 Bwc0 Bxc0 Bgc0 B0l Bwl Bxl Bgl
  obtain ⟨W8, hW⟩ : ∃ W8, W8 = ov W7 x := ⟨_, rfl⟩
  rw [← hW]
  have K : Below W7.heap.size W7 W8 := by rw [hW]; exact (by repeat (first | exact Below.refl _ _ | refine below_ov _ _ ?_ (by first | omega | (simp [ov_size] <;> omega)) | refine Below.alloc ?_ (by first | omega | (simp [ov_size] <;> omega)) _ | refine Below.setCell ?_ (by first | omega | (simp [ov_size] <;> omega)) _ | refine Below.drew ?_ | refine below_drewN ?_ _))
  clear hW
  replace T := T.trans (K.mono T.size)
  replace B0 := box_below B0 K
  replace Bw := box_below Bw K
  replace Bx := box_below Bx K
  replace Bg := box_below Bg K
  replace Xw := Xw.below K
  replace Xx := Xx.below K
  replace Xg := Xg.below K
  clear K S
  have S := R.below (TV.trans (T.mono s0))
  have B0c0 := cell_blk (j := 0) (v := .slice A p.length c) B0.out rfl
  have B0l := (Array.getElem?_eq_some_iff.1 B0.out).1
  have Bwc0 := cell_blk (j := 0) (v := .slice aw out.length dw) Bw.out rfl
  have Bwl := (Array.getElem?_eq_some_iff.1 Bw.out).1
  have Bxc0 := cell_blk (j := 0) (v := .slice ax p.length dx) Bx.out rfl
  have Bxl := (Array.getElem?_eq_some_iff.1 Bx.out).1
  have Bgc0 := cell_blk (j := 0) (v := .slice ag out.length dg) Bg.out rfl
  have Bgl := (Array.getElem?_eq_some_iff.1 Bg.out).1
  refine wp_region_rel [.pur [] ?e0, .pur [] ?e1, .rel [] [2] false (IsOw (GReg p)), .pur [2] ?e3, .pur [] ?e4] _ rfl rfl (by kernel_rfl) (by kernel_rfl) ?hste (fun vs => ?walke)
  case' walke =>
    (refine wpRel_pur rfl rfl (fun x => by ((go_wp2); refine relEnd_pur rfl ?_ (by repeat (first | exact Below.refl _ _ | refine below_ov _ _ ?_ (by first | omega | (simp [ov_size] <;> omega)) | refine Below.alloc ?_ (by first | omega | (simp [ov_size] <;> omega)) _ | refine Below.setCell ?_ (by first | omega | (simp [ov_size] <;> omega)) _ | refine Below.drew ?_ | refine below_drewN ?_ _)); simp only [Act.put, List.setIfInBounds_toArray, List.set_cons_succ, List.set_cons_zero]; rfl)) ?_; simp only [Act.put, List.setIfInBounds_toArray, List.set_cons_succ, List.set_cons_zero])
    (refine wpRel_pur rfl rfl (fun x => by ((go_wp2); refine relEnd_pur rfl ?_ (by repeat (first | exact Below.refl _ _ | refine below_ov _ _ ?_ (by first | omega | (simp [ov_size] <;> omega)) | refine Below.alloc ?_ (by first | omega | (simp [ov_size] <;> omega)) _ | refine Below.setCell ?_ (by first | omega | (simp [ov_size] <;> omega)) _ | refine Below.drew ?_ | refine below_drewN ?_ _)); simp only [Act.put, List.setIfInBounds_toArray, List.set_cons_succ, List.set_cons_zero]; rfl)) ?_; simp only [Act.put, List.setIfInBounds_toArray, List.set_cons_succ, List.set_cons_zero])
    refine wpRel_own rfl rfl rfl (fun x hh => ?_) ?_
    · go_wp2_with fail
      refine (toRegion_any (S.below (by repeat (first | exact Below.refl _ _ | refine below_ov _ _ ?_ (by first | omega | (simp [ov_size] <;> omega)) | refine Below.alloc ?_ (by first | omega | (simp [ov_size] <;> omega)) _ | refine Below.setCell ?_ (by first | omega | (simp [ov_size] <;> omega)) _ | refine Below.drew ?_ | refine below_drewN ?_ _))) (by omega)).mono ?_
      rintro e w7 ⟨A7, c7, rfl, Q7, hb7⟩
      go_wp2
      refine relEnd_ow rfl rfl ?_ hb7 ⟨A7, c7, rfl, Q7.weak (by rw [ov_size]; omega)⟩
      (simp only [Act.put, List.setIfInBounds_toArray, List.set_cons_succ, List.set_cons_zero] <;> rfl)
    simp only [Act.put, List.setIfInBounds_toArray, List.set_cons_succ, List.set_cons_zero]
    (refine wpRel_purn rfl rfl (fun x hh => by ((obtain ⟨a, d, f, Q⟩ := isOw_at (hh 2 (by simp)) rfl; simp only [f]); (go_wp2_with (first | (go_at_call 19; refine (calls_ov (eqRegion_same ((Xx.below (by repeat (first | exact Below.refl _ _ | refine below_ov _ _ ?_ (by first | omega | (simp [ov_size] <;> omega)) | refine Below.alloc ?_ (by first | omega | (simp [ov_size] <;> omega)) _ | refine Below.setCell ?_ (by first | omega | (simp [ov_size] <;> omega)) _ | refine Below.drew ?_ | refine below_drewN ?_ _))).r3) Q.r3 (by omega))).mono ?_; rintro e w' ⟨rfl, x, rfl⟩))); refine relEnd_pur rfl ?_ (by repeat (first | exact Below.refl _ _ | refine below_ov _ _ ?_ (by first | omega | (simp [ov_size] <;> omega)) | refine Below.alloc ?_ (by first | omega | (simp [ov_size] <;> omega)) _ | refine Below.setCell ?_ (by first | omega | (simp [ov_size] <;> omega)) _ | refine Below.drew ?_ | refine below_drewN ?_ _)); simp only [Act.put, List.setIfInBounds_toArray, List.set_cons_succ, List.set_cons_zero]; rfl)) ?_; simp only [Act.put, List.setIfInBounds_toArray, List.set_cons_succ, List.set_cons_zero])
    (refine wpRel_pur rfl rfl (fun x => by ((go_wp2); refine relEnd_pur rfl ?_ (by repeat (first | exact Below.refl _ _ | refine below_ov _ _ ?_ (by first | omega | (simp [ov_size] <;> omega)) | refine Below.alloc ?_ (by first | omega | (simp [ov_size] <;> omega)) _ | refine Below.setCell ?_ (by first | omega | (simp [ov_size] <;> omega)) _ | refine Below.drew ?_ | refine below_drewN ?_ _)); simp only [Act.put, List.setIfInBounds_toArray, List.set_cons_succ, List.set_cons_zero]; rfl)) ?_; simp only [Act.put, List.setIfInBounds_toArray, List.set_cons_succ, List.set_cons_zero])
    refine wpRelE_nilB0 (fun W9 K hh => ?_)
    clear hh
    clear B0c0 Bwc0 Bxc0 Bgc0 B0l Bwl Bxl Bgl
    replace T := T.trans (K.mono T.size)
    replace B0 := box_below B0 K
    replace Bw := box_below Bw K
    replace Bx := box_below Bx K
    replace Bg := box_below Bg K
    replace Xw := Xw.below K
    replace Xx := Xx.below K
    replace Xg := Xg.below K
    clear K S
    have S := R.below (TV.trans (T.mono s0))
    have B0c0 := cell_blk (j := 0) (v := .slice A p.length c) B0.out rfl
    have B0l := (Array.getElem?_eq_some_iff.1 B0.out).1
    have Bwc0 := cell_blk (j := 0) (v := .slice aw out.length dw) Bw.out rfl
    have Bwl := (Array.getElem?_eq_some_iff.1 Bw.out).1
    have Bxc0 := cell_blk (j := 0) (v := .slice ax p.length dx) Bx.out rfl
    have Bxl := (Array.getElem?_eq_some_iff.1 Bx.out).1
    have Bgc0 := cell_blk (j := 0) (v := .slice ag out.length dg) Bg.out rfl
    have Bgl := (Array.getElem?_eq_some_iff.1 Bg.out).1
    go_wp2_with fail
    refine (markRegion_any (Xx.below (by repeat (first | exact Below.refl _ _ | refine below_ov _ _ ?_ (by first | omega | (simp [ov_size] <;> omega)) | refine Below.alloc ?_ (by first | omega | (simp [ov_size] <;> omega)) _ | refine Below.setCell ?_ (by first | omega | (simp [ov_size] <;> omega)) _ | refine Below.drew ?_ | refine below_drewN ?_ _))) (by omega) ⟨by omega, by omega⟩).mono ?_
    rintro e W10 ⟨rfl, Yx, hg⟩
    have K : W9.grownBy W10 _ := grown_pre (by exact (by repeat (first | exact Below.refl _ _ | refine below_ov _ _ ?_ (by first | omega | (simp [ov_size] <;> omega)) | refine Below.alloc ?_ (by first | omega | (simp [ov_size] <;> omega)) _ | refine Below.setCell ?_ (by first | omega | (simp [ov_size] <;> omega)) _ | refine Below.drew ?_ | refine below_drewN ?_ _))) hg
    clear hg
    replace T := grown_below T K (fun k hk => (Xx.lt k hk).1) (Nat.le_refl _)
    clear B0c0 Bwc0 Bxc0 Bgc0 B0l Bwl Bxl Bgl
    replace B0 := box_grown B0 K (Xx.ne_box B0.out (by decide))
    replace Bw := box_grown Bw K (Xx.ne_box Bw.out (by decide))
    replace Bx := box_grown Bx K (Xx.ne_box Bx.out (by decide))
    replace Bg := box_grown Bg K (Xx.ne_box Bg.out (by decide))
    replace Xw := Xw.grown Xx K apXwx.symm
    replace Xg := Xg.grown Xx K apXxg
    clear K S Xx
    have S := R.below (TV.trans (T.mono s0))
    clear Bx Yx
    have B0c0 := cell_blk (j := 0) (v := .slice A p.length c) B0.out rfl
    have B0l := (Array.getElem?_eq_some_iff.1 B0.out).1
    have Bwc0 := cell_blk (j := 0) (v := .slice aw out.length dw) Bw.out rfl
    have Bwl := (Array.getElem?_eq_some_iff.1 Bw.out).1
    have Bgc0 := cell_blk (j := 0) (v := .slice ag out.length dg) Bg.out rfl
    have Bgl := (Array.getElem?_eq_some_iff.1 Bg.out).1
    go_wp2_with ((go_at_call 19; (first | (with_reducible refine (calls_ov2 (eqRegion_same (by first | exact ((Xg.below (by repeat (first | exact Below.refl _ _ | refine below_ov _ _ ?_ (by first | omega | (simp [ov_size] <;> omega)) | refine Below.alloc ?_ (by first | omega | (simp [ov_size] <;> omega)) _ | refine Below.setCell ?_ (by first | omega | (simp [ov_size] <;> omega)) _ | refine Below.drew ?_ | refine below_drewN ?_ _))).r3) | exact Xg.r3) (by first | exact ((Xw.below (by repeat (first | exact Below.refl _ _ | refine below_ov _ _ ?_ (by first | omega | (simp [ov_size] <;> omega)) | refine Below.alloc ?_ (by first | omega | (simp [ov_size] <;> omega)) _ | refine Below.setCell ?_ (by first | omega | (simp [ov_size] <;> omega)) _ | refine Below.drew ?_ | refine below_drewN ?_ _))).r3) | exact Xw.r3) (by omega))).mono ?_) | refine (calls_ov (eqRegion_same (by first | exact ((Xg.below (by repeat (first | exact Below.refl _ _ | refine below_ov _ _ ?_ (by first | omega | (simp [ov_size] <;> omega)) | refine Below.alloc ?_ (by first | omega | (simp [ov_size] <;> omega)) _ | refine Below.setCell ?_ (by first | omega | (simp [ov_size] <;> omega)) _ | refine Below.drew ?_ | refine below_drewN ?_ _))).r3) | exact Xg.r3) (by first | exact ((Xw.below (by repeat (first | exact Below.refl _ _ | refine below_ov _ _ ?_ (by first | omega | (simp [ov_size] <;> omega)) | refine Below.alloc ?_ (by first | omega | (simp [ov_size] <;> omega)) _ | refine Below.setCell ?_ (by first | omega | (simp [ov_size] <;> omega)) _ | refine Below.drew ?_ | refine below_drewN ?_ _))).r3) | exact Xw.r3) (by omega))).mono ?_); rintro e w' ⟨rfl, x, rfl⟩))
    refine (markRegion_any (Xg.below (by repeat (first | exact Below.refl _ _ | refine below_ov _ _ ?_ (by first | omega | (simp [ov_size] <;> omega)) | refine Below.alloc ?_ (by first | omega | (simp [ov_size] <;> omega)) _ | refine Below.setCell ?_ (by first | omega | (simp [ov_size] <;> omega)) _ | refine Below.drew ?_ | refine below_drewN ?_ _))) (by omega) ⟨by omega, by omega⟩).mono ?_
    rintro e W11 ⟨rfl, Yg, hg⟩
    have K : W10.grownBy W11 _ := grown_pre (by exact (by repeat (first | exact Below.refl _ _ | refine below_ov _ _ ?_ (by first | omega | (simp [ov_size] <;> omega)) | refine Below.alloc ?_ (by first | omega | (simp [ov_size] <;> omega)) _ | refine Below.setCell ?_ (by first | omega | (simp [ov_size] <;> omega)) _ | refine Below.drew ?_ | refine below_drewN ?_ _))) hg
    clear hg
    replace T := grown_below T K (fun k hk => (Xg.lt k hk).1) (Nat.le_refl _)
    clear B0c0 Bwc0 Bgc0 B0l Bwl Bgl
    replace B0 := box_grown B0 K (Xg.ne_box B0.out (by decide))
    replace Bw := box_grown Bw K (Xg.ne_box Bw.out (by decide))
    replace Bg := box_grown Bg K (Xg.ne_box Bg.out (by decide))
    replace Xw := Xw.grown Xg K apXwg.symm
    clear K S Xg
    have S := R.below (TV.trans (T.mono s0))
    have B0c0 := cell_blk (j := 0) (v := .slice A p.length c) B0.out rfl
    have B0l := (Array.getElem?_eq_some_iff.1 B0.out).1
    have Bwc0 := cell_blk (j := 0) (v := .slice aw out.length dw) Bw.out rfl
    have Bwl := (Array.getElem?_eq_some_iff.1 Bw.out).1
    have Bgc0 := cell_blk (j := 0) (v := .slice ag out.length dg) Bg.out rfl
    have Bgl := (Array.getElem?_eq_some_iff.1 Bg.out).1
    go_wp2_with (first | (go_at_call 21; (first | (with_reducible refine (calls_ov2 (heldRegion_any (by first | exact ((Yg.below (by repeat (first | exact Below.refl _ _ | refine below_ov _ _ ?_ (by first | omega | (simp [ov_size] <;> omega)) | refine Below.alloc ?_ (by first | omega | (simp [ov_size] <;> omega)) _ | refine Below.setCell ?_ (by first | omega | (simp [ov_size] <;> omega)) _ | refine Below.drew ?_ | refine below_drewN ?_ _))).r3) | exact Yg.r3) (by omega))).mono ?_) | refine (calls_ov (heldRegion_any (by first | exact ((Yg.below (by repeat (first | exact Below.refl _ _ | refine below_ov _ _ ?_ (by first | omega | (simp [ov_size] <;> omega)) | refine Below.alloc ?_ (by first | omega | (simp [ov_size] <;> omega)) _ | refine Below.setCell ?_ (by first | omega | (simp [ov_size] <;> omega)) _ | refine Below.drew ?_ | refine below_drewN ?_ _))).r3) | exact Yg.r3) (by omega))).mono ?_); rintro e w' ⟨rfl, x, rfl⟩))
    clear B0c0 Bwc0 Bgc0 B0l Bwl Bgl
    obtain ⟨W12, hW⟩ : ∃ W12, W12 = ov W11 x := ⟨_, rfl⟩
    rw [← hW]
    have K : Below W11.heap.size W11 W12 := by rw [hW]; exact (by repeat (first | exact Below.refl _ _ | refine below_ov _ _ ?_ (by first | omega | (simp [ov_size] <;> omega)) | refine Below.alloc ?_ (by first | omega | (simp [ov_size] <;> omega)) _ | refine Below.setCell ?_ (by first | omega | (simp [ov_size] <;> omega)) _ | refine Below.drew ?_ | refine below_drewN ?_ _))
    clear hW
    replace T := T.trans (K.mono T.size)
    replace B0 := box_below B0 K
    replace Bw := box_below Bw K
    replace Bg := box_below Bg K
    replace Xw := Xw.below K
    replace Yg := Yg.below K
    clear K S
    have S := R.below (TV.trans (T.mono s0))
    refine (toRegion_any (S.below (by repeat (first | exact Below.refl _ _ | refine below_ov _ _ ?_ (by first | omega | (simp [ov_size] <;> omega)) | refine Below.alloc ?_ (by first | omega | (simp [ov_size] <;> omega)) _ | refine Below.setCell ?_ (by first | omega | (simp [ov_size] <;> omega)) _ | refine Below.drew ?_ | refine below_drewN ?_ _))) (by omega)).mono ?_
    rintro e W13 ⟨av, dv, rfl, Xv, hb⟩
    have apXwv := apart_new Xw Xv (by simp [ov_size])
    have apYgv := apart_new Yg Xv (by simp [ov_size])
    have K : Below W12.heap.size W12 W13 := Below.trans (by repeat (first | exact Below.refl _ _ | refine below_ov _ _ ?_ (by first | omega | (simp [ov_size] <;> omega)) | refine Below.alloc ?_ (by first | omega | (simp [ov_size] <;> omega)) _ | refine Below.setCell ?_ (by first | omega | (simp [ov_size] <;> omega)) _ | refine Below.drew ?_ | refine below_drewN ?_ _)) (hb.mono (by simp [ov_size]))
    replace Xv := Xv.weak (B' := V.heap.size) (by have := T.size; simp [ov_size]; omega)
    clear hb
    replace T := T.trans (K.mono T.size)
    replace B0 := box_below B0 K
    replace Bw := box_below Bw K
    replace Bg := box_below Bg K
    replace Xw := Xw.below K
    replace Yg := Yg.below K
    clear K S
    have S := R.below (TV.trans (T.mono s0))
    have B0c0 := cell_blk (j := 0) (v := .slice A p.length c) B0.out rfl
    have B0l := (Array.getElem?_eq_some_iff.1 B0.out).1
    have Bwc0 := cell_blk (j := 0) (v := .slice aw out.length dw) Bw.out rfl
    have Bwl := (Array.getElem?_eq_some_iff.1 Bw.out).1
    have Bgc0 := cell_blk (j := 0) (v := .slice ag out.length dg) Bg.out rfl
    have Bgl := (Array.getElem?_eq_some_iff.1 Bg.out).1
    go_wp2_with fail
    clear B0c0 Bwc0 Bgc0 B0l Bwl Bgl
    refine (impl_ShiftRegion_eq ((Xv.below (by repeat (first | exact Below.refl _ _ | refine below_ov _ _ ?_ (by first | omega | (simp [ov_size] <;> omega)) | refine Below.alloc ?_ (by first | omega | (simp [ov_size] <;> omega)) _ | refine Below.setCell ?_ (by first | omega | (simp [ov_size] <;> omega)) _ | refine Below.drew ?_ | refine below_drewN ?_ _))).r3) (by omega) hdx hdy HR).mono ?_
    rintro e W14 ⟨ah, dh, rfl, Xh, hb⟩
    have apXwh := apart_new Xw Xh (by simp [ov_size])
    have apYgh := apart_new Yg Xh (by simp [ov_size])
    have apXvh := apart_new Xv Xh (by simp [ov_size])
    have K : Below W13.heap.size W13 W14 := Below.trans (by repeat (first | exact Below.refl _ _ | refine below_ov _ _ ?_ (by first | omega | (simp [ov_size] <;> omega)) | refine Below.alloc ?_ (by first | omega | (simp [ov_size] <;> omega)) _ | refine Below.setCell ?_ (by first | omega | (simp [ov_size] <;> omega)) _ | refine Below.drew ?_ | refine below_drewN ?_ _)) (hb.mono (by simp [ov_size]))
    replace Xh := Xh.weak (B' := V.heap.size) (by have := T.size; simp [ov_size]; omega)
    clear hb
    replace T := T.trans (K.mono T.size)
    replace B0 := box_below B0 K
    replace Bw := box_below Bw K
    replace Bg := box_below Bg K
    replace Xw := Xw.below K
    replace Yg := Yg.below K
    replace Xv := Xv.below K
    clear K S
    have S := R.below (TV.trans (T.mono s0))
    have B0c0 := cell_blk (j := 0) (v := .slice A p.length c) B0.out rfl
    have B0l := (Array.getElem?_eq_some_iff.1 B0.out).1
    have Bwc0 := cell_blk (j := 0) (v := .slice aw out.length dw) Bw.out rfl
    have Bwl := (Array.getElem?_eq_some_iff.1 Bw.out).1
    have Bgc0 := cell_blk (j := 0) (v := .slice ag out.length dg) Bg.out rfl
    have Bgl := (Array.getElem?_eq_some_iff.1 Bg.out).1
    go_wp2_with (first | (go_at_call 21; (first | (with_reducible refine (calls_ov2 (heldRegion_any (by first | exact ((Yg.below (by repeat (first | exact Below.refl _ _ | refine below_ov _ _ ?_ (by first | omega | (simp [ov_size] <;> omega)) | refine Below.alloc ?_ (by first | omega | (simp [ov_size] <;> omega)) _ | refine Below.setCell ?_ (by first | omega | (simp [ov_size] <;> omega)) _ | refine Below.drew ?_ | refine below_drewN ?_ _))).r3) | exact Yg.r3) (by omega))).mono ?_) | refine (calls_ov (heldRegion_any (by first | exact ((Yg.below (by repeat (first | exact Below.refl _ _ | refine below_ov _ _ ?_ (by first | omega | (simp [ov_size] <;> omega)) | refine Below.alloc ?_ (by first | omega | (simp [ov_size] <;> omega)) _ | refine Below.setCell ?_ (by first | omega | (simp [ov_size] <;> omega)) _ | refine Below.drew ?_ | refine below_drewN ?_ _))).r3) | exact Yg.r3) (by omega))).mono ?_); rintro e w' ⟨rfl, x, rfl⟩) | (go_at_call 19; (first | (with_reducible refine (calls_ov2 (eqRegion_same (by first | exact ((Xh.below (by repeat (first | exact Below.refl _ _ | refine below_ov _ _ ?_ (by first | omega | (simp [ov_size] <;> omega)) | refine Below.alloc ?_ (by first | omega | (simp [ov_size] <;> omega)) _ | refine Below.setCell ?_ (by first | omega | (simp [ov_size] <;> omega)) _ | refine Below.drew ?_ | refine below_drewN ?_ _))).r3) | exact Xh.r3) (by first | exact ((Xw.below (by repeat (first | exact Below.refl _ _ | refine below_ov _ _ ?_ (by first | omega | (simp [ov_size] <;> omega)) | refine Below.alloc ?_ (by first | omega | (simp [ov_size] <;> omega)) _ | refine Below.setCell ?_ (by first | omega | (simp [ov_size] <;> omega)) _ | refine Below.drew ?_ | refine below_drewN ?_ _))).r3) | exact Xw.r3) (by omega))).mono ?_) | refine (calls_ov (eqRegion_same (by first | exact ((Xh.below (by repeat (first | exact Below.refl _ _ | refine below_ov _ _ ?_ (by first | omega | (simp [ov_size] <;> omega)) | refine Below.alloc ?_ (by first | omega | (simp [ov_size] <;> omega)) _ | refine Below.setCell ?_ (by first | omega | (simp [ov_size] <;> omega)) _ | refine Below.drew ?_ | refine below_drewN ?_ _))).r3) | exact Xh.r3) (by first | exact ((Xw.below (by repeat (first | exact Below.refl _ _ | refine below_ov _ _ ?_ (by first | omega | (simp [ov_size] <;> omega)) | refine Below.alloc ?_ (by first | omega | (simp [ov_size] <;> omega)) _ | refine Below.setCell ?_ (by first | omega | (simp [ov_size] <;> omega)) _ | refine Below.drew ?_ | refine below_drewN ?_ _))).r3) | exact Xw.r3) (by omega))).mono ?_); rintro e w' ⟨rfl, x, rfl⟩))
    go_ret
    exact ⟨rfl, (by repeat (first | exact TV.trans (T.mono s0) | refine below_ov _ _ ?_ (by first | omega | (simp [ov_size] <;> omega)) | refine Below.alloc ?_ (by first | omega | (simp [ov_size] <;> omega)) _ | refine Below.setCell ?_ (by first | omega | (simp [ov_size] <;> omega)) _ | refine Below.drew ?_ | refine below_drewN ?_ _))⟩
  case' hste => exact (by repeat (first | exact all_nil | refine all_cons trivial ?_ | refine all_cons isAl_stable ?_ | refine all_cons isSt_stable ?_ | refine all_cons isStB_stable ?_ | refine all_cons (isOw_stable (by assumption)) ?_))
set_option maxRecDepth 100000 in
theorem FnExactShiftRegion_lifted (os : Os) (started : os.Started) (H : Type) (enc : TypeId × Value → H) :
    ReturnsInHanded {} Try.checked os 8 .any (Rows.fnExactShiftRegionSpec.pre6 enc Try.prog Try.f8 Rows.fnExactShiftRegionRow.domain false) (Rows.fnExactShiftRegionSpec.post enc Try.prog Try.f8 false true false false) := by
  refine returnsInHanded_of_change (C := Try.checked) own started (by kernel_rfl) Try.func8
    (ChangeSpec.witness6 (enc := enc) (C := Try.checked) false ⟨#[], #[.agg #[.slice none 0 0], .int .i64 0, .int .i64 0], []⟩ 8 (by kernel_rfl) (by kernel_rfl) (by kernel_rfl) (by kernel_rfl)) ?_
  intro W base args ds gs before hval0 hW hcnd _
  have hval : ∀ (j : Nat) t v, Try.f8.params[j]? = some t → args[j]? = some v → Value.okWide Try.prog W .any base t v := hval0
  have hW' := hW
  obtain ⟨p, q, hA0, hV, rfl, hfz, hnd⟩ := hW
  have hA : DataW.TrodAll enc Try.prog W 0 (fun _ => true) true Try.f8.params.toList args.toList ds p := hA0
  rw [Try.params8] at hA hval
  obtain ⟨v0, vs0, d0, ds0, p0, q0, hargs0, rfl, rfl, h0, r0⟩ := trodAll_cons hA
  obtain ⟨v1, vs1, d1, ds1, p1, q1, hargs1, rfl, rfl, h1, r1⟩ := trodAll_cons r0
  obtain ⟨v2, vs2, d2, ds2, p2, q2, hargs2, rfl, rfl, h2, r2⟩ := trodAll_cons r1
  obtain ⟨rfl, rfl, rfl⟩ := trodAll_nil r2
  obtain rfl : args = #[v0, v1, v2] := by cases args; simp_all
  obtain ⟨rfl, rfl⟩ := trodVars_none hV
  have k0 := h0
  have lt0 : ∀ x ∈ p0, x.block < W.heap.size := by obtain ⟨m, hm⟩ := k0; exact DataW.trod_lt m _ _ _ hm
  have k1 := h1
  have lt1 : ∀ x ∈ p1, x.block < W.heap.size := by obtain ⟨m, hm⟩ := k1; exact DataW.trod_lt m _ _ _ hm
  have k2 := h2
  have lt2 : ∀ x ∈ p2, x.block < W.heap.size := by obtain ⟨m, hm⟩ := k2; exact DataW.trod_lt m _ _ _ hm
  have hv0 := hval 0 24 v0 rfl rfl
  have hv1 := hval 1 3 v1 rfl rfl
  have hv2 := hval 2 3 v2 rfl rfl
  obtain ⟨A, c, hs, rfl, RR, hlen⟩ := open_region hv0 h0
  obtain ⟨dx, rfl, _, _, wf1⟩ := open_int Try.underlying3 hv1 h1
  have bd1 := wf_bd wf1
  obtain ⟨dy, rfl, _, _, wf2⟩ := open_int Try.underlying3 hv2 h2
  have bd2 := wf_bd wf2
  clear hA0 hval0
  refine (law22_any W RR hlen bd1 bd2).mono fun e W' ⟨he, bel⟩ => ?_
  subst he
  exact ⟨_, rfl, _, _, _, [], _, [], hW', trodAll_mk1 (shut_bool Try.underlying4 _), (trodAll_cons_mk (Below.trod laidOut (by kernel_rfl) (of_decide_eq_true (by kernel_rfl)) k0 bel lt0) (trodAll_cons_mk (Below.trod laidOut (by kernel_rfl) (of_decide_eq_true (by kernel_rfl)) k1 bel lt1) (trodAll_cons_mk (Below.trod laidOut (by kernel_rfl) (of_decide_eq_true (by kernel_rfl)) k2 bel lt2) trodAll_mk0))), rfl, bel.frame _, fun h => by cases h⟩

theorem FnExactShiftRegion_holds : Rows.FnExactShiftRegionSaid :=
  OpenClaim.holds_of_wide 8 Try.f8 rfl rfl rfl rfl rfl rfl rfl ⟨rfl, rfl, rfl, rfl, rfl⟩ rfl rfl rfl rfl rfl (by kernel_rfl) Try.func8 (by kernel_rfl)
    (of_decide_eq_true (by kernel_rfl)) (by unfold Func.isWrapper; first | (rw [if_pos (by decide +kernel)]; kernel_rfl) | (rw [if_neg (by decide +kernel)]; exact ⟨rfl, rfl⟩))
    (fun os started H enc _ => FnExactShiftRegion_lifted os started H enc)
#print axioms FnExactShiftRegion_holds

end Go.Proofs.Ytnenlgaafiifpaa
