/- FnExactGrowAlong returns true for every argument, and leaves it as it was. No condition. -/
import Derived.Test.YtgdleimdenbnlaaGu
set_option linter.unusedVariables false
set_option linter.unusedSimpArgs false
set_option linter.unusedSectionVars false
namespace Go.Proofs.Ytgdleimdenbnlaa
open Go.ChangeShapes Go.WideShapes Go.ChangeAt Go.RowKit Go.Joins

set_option maxRecDepth 100000 in
set_option maxHeartbeats 8000000 in
theorem law41_any {p : List H3} {Ap : Option Addr} {cp : Nat} {a1 : Int} {b1 : Int} {e1 : Int} {f1 : Int} (w : World) (Rp : RL w Ap p) (hlp : p.length ≤ 9223372036854775807) (ha1 : -9223372036854775808 ≤ a1 ∧ a1 ≤ 9223372036854775807) (hb1 : -9223372036854775808 ≤ b1 ∧ b1 ≤ 9223372036854775807) (he1 : -9223372036854775808 ≤ e1 ∧ e1 ≤ 9223372036854775807) (hf1 : -9223372036854775808 ≤ f1 ∧ f1 ≤ 9223372036854775807) :
    Calls Try.prog 10 #[.agg #[.slice Ap p.length cp], .int .i64 a1, .int .i64 b1, .int .i64 e1, .int .i64 f1] w fun e w' => e = .returned (.bool true) ∧ Below w.heap.size w w' := by
  obtain ⟨zp, hzp⟩ : ∃ z, szL p.length (1048576 : Int) = z := ⟨_, rfl⟩
  have HZp := Lib.hid hzp
  by_cases hcp : zp < 0
  · clear hzp
    go_enter Try.func10, Try.ntmps10
    go_wp2_with (first | (go_at_call 29; (first | (with_reducible refine (calls_ov2 (szRegion_eq (by exact HZp) (by omega) ⟨by omega, by omega⟩)).mono ?_) | refine (calls_ov (szRegion_eq (by exact HZp) (by omega) ⟨by omega, by omega⟩)).mono ?_); rintro e w' ⟨rfl, x, rfl⟩))
    go_ret
    exact ⟨rfl, (by repeat (first | exact Below.refl _ _ | refine below_ov _ _ ?_ (by first | omega | (simp [ov_size] <;> omega)) | refine Below.alloc ?_ (by first | omega | (simp [ov_size] <;> omega)) _ | refine Below.setCell ?_ (by first | omega | (simp [ov_size] <;> omega)) _ | refine Below.drew ?_ | refine below_drewN ?_ _))⟩
  have hmp : p.length ≤ 1048576 ∧ zp ≤ 1048576 := by unfold szL at hzp; split at hzp <;> omega
  have hmmp := hmp.1
  have hzbp := hmp.2
  clear hmp
  obtain ⟨⟨out, ok⟩, hr⟩ : ∃ r, growR p a1 b1 e1 f1 = r := ⟨_, rfl⟩
  have ho := growR_short hr
  have HR := Lib.hid hr
  have ORp := owned_reg p
  have OO := owned_reg out
  have OT := owned_tup out ok
  clear hr hzp
  have hne : (ok != ok) = false := by simp
  go_enter Try.func10, Try.ntmps10
  go_wp2_with (first | (go_at_call 29; (first | (with_reducible refine (calls_ov2 (szRegion_eq (by exact HZp) (by omega) ⟨by omega, by omega⟩)).mono ?_) | refine (calls_ov (szRegion_eq (by exact HZp) (by omega) ⟨by omega, by omega⟩)).mono ?_); rintro e w' ⟨rfl, x, rfl⟩))
  obtain ⟨V, hV⟩ : ∃ V, (w.alloc (.cells #[.slice Ap p.length cp] 25)) = V := ⟨_, rfl⟩
  have TV : Below w.heap.size w V := by rw [← hV]; exact (by repeat (first | exact Below.refl _ _ | refine below_ov _ _ ?_ (by first | omega | (simp [ov_size] <;> omega)) | refine Below.alloc ?_ (by first | omega | (simp [ov_size] <;> omega)) _ | refine Below.setCell ?_ (by first | omega | (simp [ov_size] <;> omega)) _ | refine Below.drew ?_ | refine below_drewN ?_ _))
  have X0 : V.heap[w.heap.size]? = some (.cells #[.slice Ap p.length cp] 25 (0, 0)) := by rw [← hV]; exact (heap_new_at (by simp) rfl)
  rw [hV]
  clear hV
  obtain ⟨W0, hW⟩ : ∃ W0, W0 = ov V x := ⟨_, rfl⟩
  rw [← hW]
  have T : Below V.heap.size V W0 := by rw [hW]; exact (by repeat (first | exact Below.refl _ _ | refine below_ov _ _ ?_ (by first | omega | (simp [ov_size] <;> omega)) | refine Below.alloc ?_ (by first | omega | (simp [ov_size] <;> omega)) _ | refine Below.setCell ?_ (by first | omega | (simp [ov_size] <;> omega)) _ | refine Below.drew ?_ | refine below_drewN ?_ _))
  clear hW
  have Bp := box_below (Lib.hid X0) T
  clear X0
  have s0 : w.heap.size ≤ V.heap.size := TV.size
  have Sp := Rp.below (TV.trans (T.mono s0))
  refine (toRegion_any (Sp.below (by repeat (first | exact Below.refl _ _ | refine below_ov _ _ ?_ (by first | omega | (simp [ov_size] <;> omega)) | refine Below.alloc ?_ (by first | omega | (simp [ov_size] <;> omega)) _ | refine Below.setCell ?_ (by first | omega | (simp [ov_size] <;> omega)) _ | refine Below.drew ?_ | refine below_drewN ?_ _))) (by omega)).mono ?_
  rintro e W1 ⟨aup, dup, rfl, Xup, hb⟩
  replace Xup := Xup.weak (B' := V.heap.size) (by have := T.size; (try simp [ov_size]); omega)
  have K : Below W0.heap.size W0 W1 := Below.trans (by repeat (first | exact Below.refl _ _ | refine below_ov _ _ ?_ (by first | omega | (simp [ov_size] <;> omega)) | refine Below.alloc ?_ (by first | omega | (simp [ov_size] <;> omega)) _ | refine Below.setCell ?_ (by first | omega | (simp [ov_size] <;> omega)) _ | refine Below.drew ?_ | refine below_drewN ?_ _)) (hb.mono (by first | exact Nat.le_refl _ | simp [ov_size]))
  clear hb
  replace T := T.trans (K.mono T.size)
  replace Bp := box_below Bp K
  clear K Sp
  have Sp := Rp.below (TV.trans (T.mono s0))
  have Bpc0 := cell_blk (j := 0) (v := .slice Ap p.length cp) Bp.out rfl
  have Bpl := (Array.getElem?_eq_some_iff.1 Bp.out).1
  go_wp2_with fail
  clear Bpc0 Bpl
  refine (spec_GrowAlong_eq ((Xup.below (by repeat (first | exact Below.refl _ _ | refine below_ov _ _ ?_ (by first | omega | (simp [ov_size] <;> omega)) | refine Below.alloc ?_ (by first | omega | (simp [ov_size] <;> omega)) _ | refine Below.setCell ?_ (by first | omega | (simp [ov_size] <;> omega)) _ | refine Below.drew ?_ | refine below_drewN ?_ _))).r3) (by omega) HR).mono ?_
  rintro e W2 ⟨aw, dw, rfl, Xw, hb⟩
  have apXupXw := apart_new Xup Xw (by first | exact Nat.le_refl _ | (simp [ov_size]) | (simp [ov_size]; omega))
  replace Xw := Xw.weak (B' := V.heap.size) (by have := T.size; (try simp [ov_size]); omega)
  have K : Below W1.heap.size W1 W2 := Below.trans (by repeat (first | exact Below.refl _ _ | refine below_ov _ _ ?_ (by first | omega | (simp [ov_size] <;> omega)) | refine Below.alloc ?_ (by first | omega | (simp [ov_size] <;> omega)) _ | refine Below.setCell ?_ (by first | omega | (simp [ov_size] <;> omega)) _ | refine Below.drew ?_ | refine below_drewN ?_ _)) (hb.mono (by first | exact Nat.le_refl _ | simp [ov_size]))
  clear hb
  replace T := T.trans (K.mono T.size)
  replace Bp := box_below Bp K
  replace Xup := Xup.below K
  clear K Sp
  have Sp := Rp.below (TV.trans (T.mono s0))
  clear Xup
  have Bpc0 := cell_blk (j := 0) (v := .slice Ap p.length cp) Bp.out rfl
  have Bpl := (Array.getElem?_eq_some_iff.1 Bp.out).1
  go_wp2_with fail
  clear Bpc0 Bpl
  obtain ⟨bw, hbx⟩ : ∃ b, b = W2.heap.size := ⟨_, rfl⟩
  rw [← hbx]
  obtain ⟨W3, hW⟩ : ∃ W, W = W2.alloc (.cells #[.slice aw out.length dw] 34) := ⟨_, rfl⟩
  rw [← hW]
  have K : Below W2.heap.size W2 W3 := by rw [hW]; exact (by repeat (first | exact Below.refl _ _ | refine below_ov _ _ ?_ (by first | omega | (simp [ov_size] <;> omega)) | refine Below.alloc ?_ (by first | omega | (simp [ov_size] <;> omega)) _ | refine Below.setCell ?_ (by first | omega | (simp [ov_size] <;> omega)) _ | refine Below.drew ?_ | refine below_drewN ?_ _))
  have Bw := Lib.hid (show W3.heap[bw]? = some (.cells #[.slice aw out.length dw] 34 (0, 0)) by rw [hW, hbx]; exact heap_alloc_new _ _)
  clear hW hbx
  replace T := T.trans (K.mono T.size)
  replace Bp := box_below Bp K
  replace Xw := Xw.below K
  clear K Sp
  have Sp := Rp.below (TV.trans (T.mono s0))
  refine (toRegion_any (Sp.below (by repeat (first | exact Below.refl _ _ | refine below_ov _ _ ?_ (by first | omega | (simp [ov_size] <;> omega)) | refine Below.alloc ?_ (by first | omega | (simp [ov_size] <;> omega)) _ | refine Below.setCell ?_ (by first | omega | (simp [ov_size] <;> omega)) _ | refine Below.drew ?_ | refine below_drewN ?_ _))) (by omega)).mono ?_
  rintro e W4 ⟨axp, dxp, rfl, Xxp, hb⟩
  have apXwXxp := apart_new Xw Xxp (by first | exact Nat.le_refl _ | (simp [ov_size]) | (simp [ov_size]; omega))
  replace Xxp := Xxp.weak (B' := V.heap.size) (by have := T.size; (try simp [ov_size]); omega)
  have K : Below W3.heap.size W3 W4 := Below.trans (by repeat (first | exact Below.refl _ _ | refine below_ov _ _ ?_ (by first | omega | (simp [ov_size] <;> omega)) | refine Below.alloc ?_ (by first | omega | (simp [ov_size] <;> omega)) _ | refine Below.setCell ?_ (by first | omega | (simp [ov_size] <;> omega)) _ | refine Below.drew ?_ | refine below_drewN ?_ _)) (hb.mono (by first | exact Nat.le_refl _ | simp [ov_size]))
  clear hb
  replace T := T.trans (K.mono T.size)
  replace Bp := box_below Bp K
  replace Bw := box_below Bw K
  replace Xw := Xw.below K
  clear K Sp
  have Sp := Rp.below (TV.trans (T.mono s0))
  have Bpc0 := cell_blk (j := 0) (v := .slice Ap p.length cp) Bp.out rfl
  have Bpl := (Array.getElem?_eq_some_iff.1 Bp.out).1
  have Bwc0 := cell_blk (j := 0) (v := .slice aw out.length dw) Bw.out rfl
  have Bwl := (Array.getElem?_eq_some_iff.1 Bw.out).1
  go_wp2_with fail
  clear Bpc0 Bwc0 Bpl Bwl
  obtain ⟨bxp, hbx⟩ : ∃ b, b = W4.heap.size := ⟨_, rfl⟩
  rw [← hbx]
  obtain ⟨W5, hW⟩ : ∃ W, W = W4.alloc (.cells #[.slice axp p.length dxp] 34) := ⟨_, rfl⟩
  rw [← hW]
  have K : Below W4.heap.size W4 W5 := by rw [hW]; exact (by repeat (first | exact Below.refl _ _ | refine below_ov _ _ ?_ (by first | omega | (simp [ov_size] <;> omega)) | refine Below.alloc ?_ (by first | omega | (simp [ov_size] <;> omega)) _ | refine Below.setCell ?_ (by first | omega | (simp [ov_size] <;> omega)) _ | refine Below.drew ?_ | refine below_drewN ?_ _))
  have Bxp := Lib.hid (show W5.heap[bxp]? = some (.cells #[.slice axp p.length dxp] 34 (0, 0)) by rw [hW, hbx]; exact heap_alloc_new _ _)
  clear hW hbx
  replace T := T.trans (K.mono T.size)
  replace Bp := box_below Bp K
  replace Bw := box_below Bw K
  replace Xw := Xw.below K
  replace Xxp := Xxp.below K
  clear K Sp
  have Sp := Rp.below (TV.trans (T.mono s0))
  refine (impl_GrowAlong_eq ((Xxp.below (by repeat (first | exact Below.refl _ _ | refine below_ov _ _ ?_ (by first | omega | (simp [ov_size] <;> omega)) | refine Below.alloc ?_ (by first | omega | (simp [ov_size] <;> omega)) _ | refine Below.setCell ?_ (by first | omega | (simp [ov_size] <;> omega)) _ | refine Below.drew ?_ | refine below_drewN ?_ _))).r3) (by omega) HR).mono ?_
  rintro e W6 ⟨ag, dg, rfl, Xg, hb⟩
  have apXwXg := apart_new Xw Xg (by first | exact Nat.le_refl _ | (simp [ov_size]) | (simp [ov_size]; omega))
  have apXxpXg := apart_new Xxp Xg (by first | exact Nat.le_refl _ | (simp [ov_size]) | (simp [ov_size]; omega))
  replace Xg := Xg.weak (B' := V.heap.size) (by have := T.size; (try simp [ov_size]); omega)
  have K : Below W5.heap.size W5 W6 := Below.trans (by repeat (first | exact Below.refl _ _ | refine below_ov _ _ ?_ (by first | omega | (simp [ov_size] <;> omega)) | refine Below.alloc ?_ (by first | omega | (simp [ov_size] <;> omega)) _ | refine Below.setCell ?_ (by first | omega | (simp [ov_size] <;> omega)) _ | refine Below.drew ?_ | refine below_drewN ?_ _)) (hb.mono (by first | exact Nat.le_refl _ | simp [ov_size]))
  clear hb
  replace T := T.trans (K.mono T.size)
  replace Bp := box_below Bp K
  replace Bw := box_below Bw K
  replace Bxp := box_below Bxp K
  replace Xw := Xw.below K
  replace Xxp := Xxp.below K
  clear K Sp
  have Sp := Rp.below (TV.trans (T.mono s0))
  have Bpc0 := cell_blk (j := 0) (v := .slice Ap p.length cp) Bp.out rfl
  have Bpl := (Array.getElem?_eq_some_iff.1 Bp.out).1
  have Bwc0 := cell_blk (j := 0) (v := .slice aw out.length dw) Bw.out rfl
  have Bwl := (Array.getElem?_eq_some_iff.1 Bw.out).1
  have Bxpc0 := cell_blk (j := 0) (v := .slice axp p.length dxp) Bxp.out rfl
  have Bxpl := (Array.getElem?_eq_some_iff.1 Bxp.out).1
  go_wp2_with fail
  clear Bpc0 Bwc0 Bxpc0 Bpl Bwl Bxpl
  obtain ⟨bg, hbx⟩ : ∃ b, b = W6.heap.size := ⟨_, rfl⟩
  rw [← hbx]
  obtain ⟨W7, hW⟩ : ∃ W, W = W6.alloc (.cells #[.slice ag out.length dg] 34) := ⟨_, rfl⟩
  rw [← hW]
  have K : Below W6.heap.size W6 W7 := by rw [hW]; exact (by repeat (first | exact Below.refl _ _ | refine below_ov _ _ ?_ (by first | omega | (simp [ov_size] <;> omega)) | refine Below.alloc ?_ (by first | omega | (simp [ov_size] <;> omega)) _ | refine Below.setCell ?_ (by first | omega | (simp [ov_size] <;> omega)) _ | refine Below.drew ?_ | refine below_drewN ?_ _))
  have Bg := Lib.hid (show W7.heap[bg]? = some (.cells #[.slice ag out.length dg] 34 (0, 0)) by rw [hW, hbx]; exact heap_alloc_new _ _)
  clear hW hbx
  replace T := T.trans (K.mono T.size)
  replace Bp := box_below Bp K
  replace Bw := box_below Bw K
  replace Bxp := box_below Bxp K
  replace Xw := Xw.below K
  replace Xxp := Xxp.below K
  replace Xg := Xg.below K
  clear K Sp
  have Sp := Rp.below (TV.trans (T.mono s0))
  refine (calls_ov (eqRegion_same (by exact (Xg.below (by repeat (first | exact Below.refl _ _ | refine below_ov _ _ ?_ (by first | omega | (simp [ov_size] <;> omega)) | refine Below.alloc ?_ (by first | omega | (simp [ov_size] <;> omega)) _ | refine Below.setCell ?_ (by first | omega | (simp [ov_size] <;> omega)) _ | refine Below.drew ?_ | refine below_drewN ?_ _))).r3) (by exact (Xw.below (by repeat (first | exact Below.refl _ _ | refine below_ov _ _ ?_ (by first | omega | (simp [ov_size] <;> omega)) | refine Below.alloc ?_ (by first | omega | (simp [ov_size] <;> omega)) _ | refine Below.setCell ?_ (by first | omega | (simp [ov_size] <;> omega)) _ | refine Below.drew ?_ | refine below_drewN ?_ _))).r3) (by omega))).mono ?_
  rintro e w' ⟨rfl, x, rfl⟩
  obtain ⟨W8, hW⟩ : ∃ W8, W8 = ov W7 x := ⟨_, rfl⟩
  rw [← hW]
  have K : Below W7.heap.size W7 W8 := by rw [hW]; exact (by repeat (first | exact Below.refl _ _ | refine below_ov _ _ ?_ (by first | omega | (simp [ov_size] <;> omega)) | refine Below.alloc ?_ (by first | omega | (simp [ov_size] <;> omega)) _ | refine Below.setCell ?_ (by first | omega | (simp [ov_size] <;> omega)) _ | refine Below.drew ?_ | refine below_drewN ?_ _))
  clear hW
  replace T := T.trans (K.mono T.size)
  replace Bp := box_below Bp K
  replace Bw := box_below Bw K
  replace Bxp := box_below Bxp K
  replace Bg := box_below Bg K
  replace Xw := Xw.below K
  replace Xxp := Xxp.below K
  replace Xg := Xg.below K
  clear K Sp
  have Sp := Rp.below (TV.trans (T.mono s0))
  have Bpc0 := cell_blk (j := 0) (v := .slice Ap p.length cp) Bp.out rfl
  have Bpl := (Array.getElem?_eq_some_iff.1 Bp.out).1
  have Bwc0 := cell_blk (j := 0) (v := .slice aw out.length dw) Bw.out rfl
  have Bwl := (Array.getElem?_eq_some_iff.1 Bw.out).1
  have Bxpc0 := cell_blk (j := 0) (v := .slice axp p.length dxp) Bxp.out rfl
  have Bxpl := (Array.getElem?_eq_some_iff.1 Bxp.out).1
  have Bgc0 := cell_blk (j := 0) (v := .slice ag out.length dg) Bg.out rfl
  have Bgl := (Array.getElem?_eq_some_iff.1 Bg.out).1
  go_wp2_with fail
  clear Bpc0 Bwc0 Bxpc0 Bgc0 Bpl Bwl Bxpl Bgl
  have Bpc0 := cell_blk (j := 0) (v := .slice Ap p.length cp) Bp.out rfl
  have Bpl := (Array.getElem?_eq_some_iff.1 Bp.out).1
  have Bwc0 := cell_blk (j := 0) (v := .slice aw out.length dw) Bw.out rfl
  have Bwl := (Array.getElem?_eq_some_iff.1 Bw.out).1
  have Bxpc0 := cell_blk (j := 0) (v := .slice axp p.length dxp) Bxp.out rfl
  have Bxpl := (Array.getElem?_eq_some_iff.1 Bxp.out).1
  have Bgc0 := cell_blk (j := 0) (v := .slice ag out.length dg) Bg.out rfl
  have Bgl := (Array.getElem?_eq_some_iff.1 Bg.out).1
  refine wp_region_rel [.pur [] ?d1c0, .pur [] ?d1c1, .rel [] [2] false (IsOw (GReg p)), .pur [2] ?d1c3, .pur [] ?d1c4] _ rfl rfl (by kernel_rfl) (by kernel_rfl) ?hstd1 (fun vs => ?walkd1)
  case' walkd1 =>
    (refine wpRel_pur rfl rfl (fun x => by ((go_wp2); refine relEnd_pur rfl ?_ (by repeat (first | exact Below.refl _ _ | refine below_ov _ _ ?_ (by first | omega | (simp [ov_size] <;> omega)) | refine Below.alloc ?_ (by first | omega | (simp [ov_size] <;> omega)) _ | refine Below.setCell ?_ (by first | omega | (simp [ov_size] <;> omega)) _ | refine Below.drew ?_ | refine below_drewN ?_ _)); simp only [Act.put, List.setIfInBounds_toArray, List.set_cons_succ, List.set_cons_zero]; rfl)) ?_; simp only [Act.put, List.setIfInBounds_toArray, List.set_cons_succ, List.set_cons_zero])
    (refine wpRel_pur rfl rfl (fun x => by ((go_wp2); refine relEnd_pur rfl ?_ (by repeat (first | exact Below.refl _ _ | refine below_ov _ _ ?_ (by first | omega | (simp [ov_size] <;> omega)) | refine Below.alloc ?_ (by first | omega | (simp [ov_size] <;> omega)) _ | refine Below.setCell ?_ (by first | omega | (simp [ov_size] <;> omega)) _ | refine Below.drew ?_ | refine below_drewN ?_ _)); simp only [Act.put, List.setIfInBounds_toArray, List.set_cons_succ, List.set_cons_zero]; rfl)) ?_; simp only [Act.put, List.setIfInBounds_toArray, List.set_cons_succ, List.set_cons_zero])
    refine wpRel_own rfl rfl rfl (fun x hh => ?_) ?_
    · go_wp2_with fail
      refine (toRegion_any (Sp.below (by repeat (first | exact Below.refl _ _ | refine below_ov _ _ ?_ (by first | omega | (simp [ov_size] <;> omega)) | refine Below.alloc ?_ (by first | omega | (simp [ov_size] <;> omega)) _ | refine Below.setCell ?_ (by first | omega | (simp [ov_size] <;> omega)) _ | refine Below.drew ?_ | refine below_drewN ?_ _))) (by omega)).mono ?_
      rintro e w7 ⟨a7, d7, rfl, Q7, hb7⟩
      go_wp2
      refine relEnd_ow rfl rfl ?_ hb7 ⟨a7, d7, rfl, Q7.weak (by rw [ov_size]; omega)⟩
      (simp only [Act.put, List.setIfInBounds_toArray, List.set_cons_succ, List.set_cons_zero] <;> rfl)
    simp only [Act.put, List.setIfInBounds_toArray, List.set_cons_succ, List.set_cons_zero]
    (refine wpRel_purn rfl rfl (fun x hh => by ((obtain ⟨ao2, do2, f2, Qo2⟩ := isOw_at (hh 2 (by simp)) rfl; simp only [f2]); (go_wp2_with (first | (go_at_call 33; refine (calls_ov (eqRegion_same (by exact (Xxp.below (by repeat (first | exact Below.refl _ _ | refine below_ov _ _ ?_ (by first | omega | (simp [ov_size] <;> omega)) | refine Below.alloc ?_ (by first | omega | (simp [ov_size] <;> omega)) _ | refine Below.setCell ?_ (by first | omega | (simp [ov_size] <;> omega)) _ | refine Below.drew ?_ | refine below_drewN ?_ _))).r3) (by first | exact ((Qo2.below (by repeat (first | exact Below.refl _ _ | refine below_ov _ _ ?_ (by first | omega | (simp [ov_size] <;> omega)) | refine Below.alloc ?_ (by first | omega | (simp [ov_size] <;> omega)) _ | refine Below.setCell ?_ (by first | omega | (simp [ov_size] <;> omega)) _ | refine Below.drew ?_ | refine below_drewN ?_ _))).r3) | exact Qo2.r3) (by omega))).mono ?_; rintro e w' ⟨rfl, x, rfl⟩))); refine relEnd_pur rfl ?_ (by repeat (first | exact Below.refl _ _ | refine below_ov _ _ ?_ (by first | omega | (simp [ov_size] <;> omega)) | refine Below.alloc ?_ (by first | omega | (simp [ov_size] <;> omega)) _ | refine Below.setCell ?_ (by first | omega | (simp [ov_size] <;> omega)) _ | refine Below.drew ?_ | refine below_drewN ?_ _)); simp only [Act.put, List.setIfInBounds_toArray, List.set_cons_succ, List.set_cons_zero]; rfl)) ?_; simp only [Act.put, List.setIfInBounds_toArray, List.set_cons_succ, List.set_cons_zero])
    (refine wpRel_pur rfl rfl (fun x => by ((go_wp2); refine relEnd_pur rfl ?_ (by repeat (first | exact Below.refl _ _ | refine below_ov _ _ ?_ (by first | omega | (simp [ov_size] <;> omega)) | refine Below.alloc ?_ (by first | omega | (simp [ov_size] <;> omega)) _ | refine Below.setCell ?_ (by first | omega | (simp [ov_size] <;> omega)) _ | refine Below.drew ?_ | refine below_drewN ?_ _)); simp only [Act.put, List.setIfInBounds_toArray, List.set_cons_succ, List.set_cons_zero]; rfl)) ?_; simp only [Act.put, List.setIfInBounds_toArray, List.set_cons_succ, List.set_cons_zero])
    refine wpRelE_nilB0 (fun W9 K hh => ?_)
    clear hh
    clear Bpc0 Bwc0 Bxpc0 Bgc0 Bpl Bwl Bxpl Bgl
    replace T := T.trans (K.mono T.size)
    replace Bp := box_below Bp K
    replace Bw := box_below Bw K
    replace Bxp := box_below Bxp K
    replace Bg := box_below Bg K
    replace Xw := Xw.below K
    replace Xxp := Xxp.below K
    replace Xg := Xg.below K
    clear K Sp
    have Sp := Rp.below (TV.trans (T.mono s0))
    have Bpc0 := cell_blk (j := 0) (v := .slice Ap p.length cp) Bp.out rfl
    have Bpl := (Array.getElem?_eq_some_iff.1 Bp.out).1
    have Bwc0 := cell_blk (j := 0) (v := .slice aw out.length dw) Bw.out rfl
    have Bwl := (Array.getElem?_eq_some_iff.1 Bw.out).1
    have Bxpc0 := cell_blk (j := 0) (v := .slice axp p.length dxp) Bxp.out rfl
    have Bxpl := (Array.getElem?_eq_some_iff.1 Bxp.out).1
    have Bgc0 := cell_blk (j := 0) (v := .slice ag out.length dg) Bg.out rfl
    have Bgl := (Array.getElem?_eq_some_iff.1 Bg.out).1
    go_wp2_with fail
    clear Bpc0 Bwc0 Bxpc0 Bgc0 Bpl Bwl Bxpl Bgl
    refine (markRegion_any (Xxp.below (by repeat (first | exact Below.refl _ _ | refine below_ov _ _ ?_ (by first | omega | (simp [ov_size] <;> omega)) | refine Below.alloc ?_ (by first | omega | (simp [ov_size] <;> omega)) _ | refine Below.setCell ?_ (by first | omega | (simp [ov_size] <;> omega)) _ | refine Below.drew ?_ | refine below_drewN ?_ _))) (by omega) ⟨by omega, by omega⟩).mono ?_
    rintro e W10 ⟨rfl, Yxp, hg⟩
    have K : W9.grownBy W10 _ := grown_pre (by exact (by repeat (first | exact Below.refl _ _ | refine below_ov _ _ ?_ (by first | omega | (simp [ov_size] <;> omega)) | refine Below.alloc ?_ (by first | omega | (simp [ov_size] <;> omega)) _ | refine Below.setCell ?_ (by first | omega | (simp [ov_size] <;> omega)) _ | refine Below.drew ?_ | refine below_drewN ?_ _))) hg
    clear hg
    replace T := grown_below T K (fun k hk => (Xxp.lt k hk).1) (Nat.le_refl _)
    replace Bp := box_grown Bp K (Xxp.ne_box Bp.out (by decide))
    replace Bw := box_grown Bw K (Xxp.ne_box Bw.out (by decide))
    replace Bxp := box_grown Bxp K (Xxp.ne_box Bxp.out (by decide))
    replace Bg := box_grown Bg K (Xxp.ne_box Bg.out (by decide))
    replace Xw := Xw.grown Xxp K apXwXxp.symm
    replace Xg := Xg.grown Xxp K apXxpXg
    clear K Sp Xxp Yxp
    have Sp := Rp.below (TV.trans (T.mono s0))
    clear Bxp
    have Bpc0 := cell_blk (j := 0) (v := .slice Ap p.length cp) Bp.out rfl
    have Bpl := (Array.getElem?_eq_some_iff.1 Bp.out).1
    have Bwc0 := cell_blk (j := 0) (v := .slice aw out.length dw) Bw.out rfl
    have Bwl := (Array.getElem?_eq_some_iff.1 Bw.out).1
    have Bgc0 := cell_blk (j := 0) (v := .slice ag out.length dg) Bg.out rfl
    have Bgl := (Array.getElem?_eq_some_iff.1 Bg.out).1
    go_wp2_with fail
    clear Bpc0 Bwc0 Bgc0 Bpl Bwl Bgl
    refine (calls_ov (eqRegion_same (by exact (Xg.below (by repeat (first | exact Below.refl _ _ | refine below_ov _ _ ?_ (by first | omega | (simp [ov_size] <;> omega)) | refine Below.alloc ?_ (by first | omega | (simp [ov_size] <;> omega)) _ | refine Below.setCell ?_ (by first | omega | (simp [ov_size] <;> omega)) _ | refine Below.drew ?_ | refine below_drewN ?_ _))).r3) (by exact (Xw.below (by repeat (first | exact Below.refl _ _ | refine below_ov _ _ ?_ (by first | omega | (simp [ov_size] <;> omega)) | refine Below.alloc ?_ (by first | omega | (simp [ov_size] <;> omega)) _ | refine Below.setCell ?_ (by first | omega | (simp [ov_size] <;> omega)) _ | refine Below.drew ?_ | refine below_drewN ?_ _))).r3) (by omega))).mono ?_
    rintro e w' ⟨rfl, x, rfl⟩
    obtain ⟨W11, hW⟩ : ∃ W11, W11 = ov W10 x := ⟨_, rfl⟩
    rw [← hW]
    have K : Below W10.heap.size W10 W11 := by rw [hW]; exact (by repeat (first | exact Below.refl _ _ | refine below_ov _ _ ?_ (by first | omega | (simp [ov_size] <;> omega)) | refine Below.alloc ?_ (by first | omega | (simp [ov_size] <;> omega)) _ | refine Below.setCell ?_ (by first | omega | (simp [ov_size] <;> omega)) _ | refine Below.drew ?_ | refine below_drewN ?_ _))
    clear hW
    replace T := T.trans (K.mono T.size)
    replace Bp := box_below Bp K
    replace Bw := box_below Bw K
    replace Bg := box_below Bg K
    replace Xw := Xw.below K
    replace Xg := Xg.below K
    clear K Sp
    have Sp := Rp.below (TV.trans (T.mono s0))
    have Bpc0 := cell_blk (j := 0) (v := .slice Ap p.length cp) Bp.out rfl
    have Bpl := (Array.getElem?_eq_some_iff.1 Bp.out).1
    have Bwc0 := cell_blk (j := 0) (v := .slice aw out.length dw) Bw.out rfl
    have Bwl := (Array.getElem?_eq_some_iff.1 Bw.out).1
    have Bgc0 := cell_blk (j := 0) (v := .slice ag out.length dg) Bg.out rfl
    have Bgl := (Array.getElem?_eq_some_iff.1 Bg.out).1
    go_wp2_with fail
    clear Bpc0 Bwc0 Bgc0 Bpl Bwl Bgl
    refine (markRegion_any (Xg.below (by repeat (first | exact Below.refl _ _ | refine below_ov _ _ ?_ (by first | omega | (simp [ov_size] <;> omega)) | refine Below.alloc ?_ (by first | omega | (simp [ov_size] <;> omega)) _ | refine Below.setCell ?_ (by first | omega | (simp [ov_size] <;> omega)) _ | refine Below.drew ?_ | refine below_drewN ?_ _))) (by omega) ⟨by omega, by omega⟩).mono ?_
    rintro e W12 ⟨rfl, Yg, hg⟩
    have K : W11.grownBy W12 _ := grown_pre (by exact (by repeat (first | exact Below.refl _ _ | refine below_ov _ _ ?_ (by first | omega | (simp [ov_size] <;> omega)) | refine Below.alloc ?_ (by first | omega | (simp [ov_size] <;> omega)) _ | refine Below.setCell ?_ (by first | omega | (simp [ov_size] <;> omega)) _ | refine Below.drew ?_ | refine below_drewN ?_ _))) hg
    clear hg
    replace T := grown_below T K (fun k hk => (Xg.lt k hk).1) (Nat.le_refl _)
    replace Bp := box_grown Bp K (Xg.ne_box Bp.out (by decide))
    replace Bw := box_grown Bw K (Xg.ne_box Bw.out (by decide))
    replace Bg := box_grown Bg K (Xg.ne_box Bg.out (by decide))
    replace Xw := Xw.grown Xg K apXwXg.symm
    clear K Sp Xg
    have Sp := Rp.below (TV.trans (T.mono s0))
    have Bpc0 := cell_blk (j := 0) (v := .slice Ap p.length cp) Bp.out rfl
    have Bpl := (Array.getElem?_eq_some_iff.1 Bp.out).1
    have Bwc0 := cell_blk (j := 0) (v := .slice aw out.length dw) Bw.out rfl
    have Bwl := (Array.getElem?_eq_some_iff.1 Bw.out).1
    have Bgc0 := cell_blk (j := 0) (v := .slice ag out.length dg) Bg.out rfl
    have Bgl := (Array.getElem?_eq_some_iff.1 Bg.out).1
    go_wp2_with fail
    clear Bpc0 Bwc0 Bgc0 Bpl Bwl Bgl
    refine (calls_ov (heldRegion_any (by exact (Yg.below (by repeat (first | exact Below.refl _ _ | refine below_ov _ _ ?_ (by first | omega | (simp [ov_size] <;> omega)) | refine Below.alloc ?_ (by first | omega | (simp [ov_size] <;> omega)) _ | refine Below.setCell ?_ (by first | omega | (simp [ov_size] <;> omega)) _ | refine Below.drew ?_ | refine below_drewN ?_ _))).r3) (by omega))).mono ?_
    rintro e w' ⟨rfl, x, rfl⟩
    obtain ⟨W13, hW⟩ : ∃ W13, W13 = ov W12 x := ⟨_, rfl⟩
    rw [← hW]
    have K : Below W12.heap.size W12 W13 := by rw [hW]; exact (by repeat (first | exact Below.refl _ _ | refine below_ov _ _ ?_ (by first | omega | (simp [ov_size] <;> omega)) | refine Below.alloc ?_ (by first | omega | (simp [ov_size] <;> omega)) _ | refine Below.setCell ?_ (by first | omega | (simp [ov_size] <;> omega)) _ | refine Below.drew ?_ | refine below_drewN ?_ _))
    clear hW
    replace T := T.trans (K.mono T.size)
    replace Bp := box_below Bp K
    replace Bw := box_below Bw K
    replace Bg := box_below Bg K
    replace Xw := Xw.below K
    replace Yg := Yg.below K
    clear K Sp
    have Sp := Rp.below (TV.trans (T.mono s0))
    have Bpc0 := cell_blk (j := 0) (v := .slice Ap p.length cp) Bp.out rfl
    have Bpl := (Array.getElem?_eq_some_iff.1 Bp.out).1
    have Bwc0 := cell_blk (j := 0) (v := .slice aw out.length dw) Bw.out rfl
    have Bwl := (Array.getElem?_eq_some_iff.1 Bw.out).1
    have Bgc0 := cell_blk (j := 0) (v := .slice ag out.length dg) Bg.out rfl
    have Bgl := (Array.getElem?_eq_some_iff.1 Bg.out).1
    go_wp2_with fail
    clear Bpc0 Bwc0 Bgc0 Bpl Bwl Bgl
    refine (toRegion_any (Sp.below (by repeat (first | exact Below.refl _ _ | refine below_ov _ _ ?_ (by first | omega | (simp [ov_size] <;> omega)) | refine Below.alloc ?_ (by first | omega | (simp [ov_size] <;> omega)) _ | refine Below.setCell ?_ (by first | omega | (simp [ov_size] <;> omega)) _ | refine Below.drew ?_ | refine below_drewN ?_ _))) (by omega)).mono ?_
    rintro e W14 ⟨aup, dup, rfl, Xup, hb⟩
    have apXwXup := apart_new Xw Xup (by first | exact Nat.le_refl _ | (simp [ov_size]) | (simp [ov_size]; omega))
    have apYgXup := apart_new Yg Xup (by first | exact Nat.le_refl _ | (simp [ov_size]) | (simp [ov_size]; omega))
    replace Xup := Xup.weak (B' := V.heap.size) (by have := T.size; (try simp [ov_size]); omega)
    have K : Below W13.heap.size W13 W14 := Below.trans (by repeat (first | exact Below.refl _ _ | refine below_ov _ _ ?_ (by first | omega | (simp [ov_size] <;> omega)) | refine Below.alloc ?_ (by first | omega | (simp [ov_size] <;> omega)) _ | refine Below.setCell ?_ (by first | omega | (simp [ov_size] <;> omega)) _ | refine Below.drew ?_ | refine below_drewN ?_ _)) (hb.mono (by first | exact Nat.le_refl _ | simp [ov_size]))
    clear hb
    replace T := T.trans (K.mono T.size)
    replace Bp := box_below Bp K
    replace Bw := box_below Bw K
    replace Bg := box_below Bg K
    replace Xw := Xw.below K
    replace Yg := Yg.below K
    clear K Sp
    have Sp := Rp.below (TV.trans (T.mono s0))
    have Bpc0 := cell_blk (j := 0) (v := .slice Ap p.length cp) Bp.out rfl
    have Bpl := (Array.getElem?_eq_some_iff.1 Bp.out).1
    have Bwc0 := cell_blk (j := 0) (v := .slice aw out.length dw) Bw.out rfl
    have Bwl := (Array.getElem?_eq_some_iff.1 Bw.out).1
    have Bgc0 := cell_blk (j := 0) (v := .slice ag out.length dg) Bg.out rfl
    have Bgl := (Array.getElem?_eq_some_iff.1 Bg.out).1
    go_wp2_with fail
    clear Bpc0 Bwc0 Bgc0 Bpl Bwl Bgl
    refine (impl_GrowAlong_eq ((Xup.below (by repeat (first | exact Below.refl _ _ | refine below_ov _ _ ?_ (by first | omega | (simp [ov_size] <;> omega)) | refine Below.alloc ?_ (by first | omega | (simp [ov_size] <;> omega)) _ | refine Below.setCell ?_ (by first | omega | (simp [ov_size] <;> omega)) _ | refine Below.drew ?_ | refine below_drewN ?_ _))).r3) (by omega) HR).mono ?_
    rintro e W15 ⟨ah, dh, rfl, Xh, hb⟩
    have apXwXh := apart_new Xw Xh (by first | exact Nat.le_refl _ | (simp [ov_size]) | (simp [ov_size]; omega))
    have apYgXh := apart_new Yg Xh (by first | exact Nat.le_refl _ | (simp [ov_size]) | (simp [ov_size]; omega))
    have apXupXh := apart_new Xup Xh (by first | exact Nat.le_refl _ | (simp [ov_size]) | (simp [ov_size]; omega))
    replace Xh := Xh.weak (B' := V.heap.size) (by have := T.size; (try simp [ov_size]); omega)
    have K : Below W14.heap.size W14 W15 := Below.trans (by repeat (first | exact Below.refl _ _ | refine below_ov _ _ ?_ (by first | omega | (simp [ov_size] <;> omega)) | refine Below.alloc ?_ (by first | omega | (simp [ov_size] <;> omega)) _ | refine Below.setCell ?_ (by first | omega | (simp [ov_size] <;> omega)) _ | refine Below.drew ?_ | refine below_drewN ?_ _)) (hb.mono (by first | exact Nat.le_refl _ | simp [ov_size]))
    clear hb
    replace T := T.trans (K.mono T.size)
    replace Bp := box_below Bp K
    replace Bw := box_below Bw K
    replace Bg := box_below Bg K
    replace Xw := Xw.below K
    replace Yg := Yg.below K
    replace Xup := Xup.below K
    clear K Sp
    have Sp := Rp.below (TV.trans (T.mono s0))
    clear Xup
    have Bpc0 := cell_blk (j := 0) (v := .slice Ap p.length cp) Bp.out rfl
    have Bpl := (Array.getElem?_eq_some_iff.1 Bp.out).1
    have Bwc0 := cell_blk (j := 0) (v := .slice aw out.length dw) Bw.out rfl
    have Bwl := (Array.getElem?_eq_some_iff.1 Bw.out).1
    have Bgc0 := cell_blk (j := 0) (v := .slice ag out.length dg) Bg.out rfl
    have Bgl := (Array.getElem?_eq_some_iff.1 Bg.out).1
    go_wp2_with fail
    clear Bpc0 Bwc0 Bgc0 Bpl Bwl Bgl
    obtain ⟨bh, hbx⟩ : ∃ b, b = W15.heap.size := ⟨_, rfl⟩
    rw [← hbx]
    obtain ⟨W16, hW⟩ : ∃ W, W = W15.alloc (.cells #[.slice ah out.length dh] 34) := ⟨_, rfl⟩
    rw [← hW]
    have K : Below W15.heap.size W15 W16 := by rw [hW]; exact (by repeat (first | exact Below.refl _ _ | refine below_ov _ _ ?_ (by first | omega | (simp [ov_size] <;> omega)) | refine Below.alloc ?_ (by first | omega | (simp [ov_size] <;> omega)) _ | refine Below.setCell ?_ (by first | omega | (simp [ov_size] <;> omega)) _ | refine Below.drew ?_ | refine below_drewN ?_ _))
    have Bh := Lib.hid (show W16.heap[bh]? = some (.cells #[.slice ah out.length dh] 34 (0, 0)) by rw [hW, hbx]; exact heap_alloc_new _ _)
    clear hW hbx
    replace T := T.trans (K.mono T.size)
    replace Bp := box_below Bp K
    replace Bw := box_below Bw K
    replace Bg := box_below Bg K
    replace Xw := Xw.below K
    replace Yg := Yg.below K
    replace Xh := Xh.below K
    clear K Sp
    have Sp := Rp.below (TV.trans (T.mono s0))
    have Bpc0 := cell_blk (j := 0) (v := .slice Ap p.length cp) Bp.out rfl
    have Bpl := (Array.getElem?_eq_some_iff.1 Bp.out).1
    have Bwc0 := cell_blk (j := 0) (v := .slice aw out.length dw) Bw.out rfl
    have Bwl := (Array.getElem?_eq_some_iff.1 Bw.out).1
    have Bgc0 := cell_blk (j := 0) (v := .slice ag out.length dg) Bg.out rfl
    have Bgl := (Array.getElem?_eq_some_iff.1 Bg.out).1
    have Bhc0 := cell_blk (j := 0) (v := .slice ah out.length dh) Bh.out rfl
    have Bhl := (Array.getElem?_eq_some_iff.1 Bh.out).1
    go_wp2_with (first | (go_at_call 41; (first | (with_reducible refine (calls_ov2 (heldRegion_any (by exact (Yg.below (by repeat (first | exact Below.refl _ _ | refine below_ov _ _ ?_ (by first | omega | (simp [ov_size] <;> omega)) | refine Below.alloc ?_ (by first | omega | (simp [ov_size] <;> omega)) _ | refine Below.setCell ?_ (by first | omega | (simp [ov_size] <;> omega)) _ | refine Below.drew ?_ | refine below_drewN ?_ _))).r3) (by omega))).mono ?_) | refine (calls_ov (heldRegion_any (by exact (Yg.below (by repeat (first | exact Below.refl _ _ | refine below_ov _ _ ?_ (by first | omega | (simp [ov_size] <;> omega)) | refine Below.alloc ?_ (by first | omega | (simp [ov_size] <;> omega)) _ | refine Below.setCell ?_ (by first | omega | (simp [ov_size] <;> omega)) _ | refine Below.drew ?_ | refine below_drewN ?_ _))).r3) (by omega))).mono ?_); rintro e w' ⟨rfl, x, rfl⟩) | (go_at_call 33; (first | (with_reducible refine (calls_ov2 (eqRegion_same (by exact (Xh.below (by repeat (first | exact Below.refl _ _ | refine below_ov _ _ ?_ (by first | omega | (simp [ov_size] <;> omega)) | refine Below.alloc ?_ (by first | omega | (simp [ov_size] <;> omega)) _ | refine Below.setCell ?_ (by first | omega | (simp [ov_size] <;> omega)) _ | refine Below.drew ?_ | refine below_drewN ?_ _))).r3) (by exact (Xw.below (by repeat (first | exact Below.refl _ _ | refine below_ov _ _ ?_ (by first | omega | (simp [ov_size] <;> omega)) | refine Below.alloc ?_ (by first | omega | (simp [ov_size] <;> omega)) _ | refine Below.setCell ?_ (by first | omega | (simp [ov_size] <;> omega)) _ | refine Below.drew ?_ | refine below_drewN ?_ _))).r3) (by omega))).mono ?_) | refine (calls_ov (eqRegion_same (by exact (Xh.below (by repeat (first | exact Below.refl _ _ | refine below_ov _ _ ?_ (by first | omega | (simp [ov_size] <;> omega)) | refine Below.alloc ?_ (by first | omega | (simp [ov_size] <;> omega)) _ | refine Below.setCell ?_ (by first | omega | (simp [ov_size] <;> omega)) _ | refine Below.drew ?_ | refine below_drewN ?_ _))).r3) (by exact (Xw.below (by repeat (first | exact Below.refl _ _ | refine below_ov _ _ ?_ (by first | omega | (simp [ov_size] <;> omega)) | refine Below.alloc ?_ (by first | omega | (simp [ov_size] <;> omega)) _ | refine Below.setCell ?_ (by first | omega | (simp [ov_size] <;> omega)) _ | refine Below.drew ?_ | refine below_drewN ?_ _))).r3) (by omega))).mono ?_); rintro e w' ⟨rfl, x, rfl⟩))
    go_ret
    exact ⟨rfl, (by repeat (first | exact TV.trans (T.mono s0) | refine below_ov _ _ ?_ (by first | omega | (simp [ov_size] <;> omega)) | refine Below.alloc ?_ (by first | omega | (simp [ov_size] <;> omega)) _ | refine Below.setCell ?_ (by first | omega | (simp [ov_size] <;> omega)) _ | refine Below.drew ?_ | refine below_drewN ?_ _))⟩
  case' hstd1 => exact (by repeat (first | exact all_nil | refine all_cons trivial ?_ | refine all_cons isAl_stable ?_ | refine all_cons isSt_stable ?_ | refine all_cons isStB_stable ?_ | refine all_cons (isOw_stable (by assumption)) ?_))
set_option maxRecDepth 100000 in
theorem FnExactGrowAlong_lifted (os : Os) (started : os.Started) (H : Type) (enc : TypeId × Value → H) :
    ReturnsInHanded {} Try.checked os 10 .any (Rows.fnExactGrowAlongSpec.pre6 enc Try.prog Try.f10 Rows.fnExactGrowAlongRow.domain false) (Rows.fnExactGrowAlongSpec.post enc Try.prog Try.f10 false true false false) := by
  refine returnsInHanded_of_change (C := Try.checked) own started (by kernel_rfl) Try.func10
    (ChangeSpec.witness6 (enc := enc) (C := Try.checked) false ⟨#[], #[.agg #[.slice none 0 0], .int .i64 0, .int .i64 0, .int .i64 0, .int .i64 0], []⟩ 8 (by kernel_rfl) (by kernel_rfl) (by kernel_rfl) (by kernel_rfl)) ?_
  intro W base args ds gs before hval0 hW hcnd _
  have hval : ∀ (j : Nat) t v, Try.f10.params[j]? = some t → args[j]? = some v → Value.okWide Try.prog W .any base t v := hval0
  have hW' := hW
  obtain ⟨p, q, hA0, hV, rfl, hfz, hnd⟩ := hW
  have hA : DataW.TrodAll enc Try.prog W 0 (fun _ => true) true Try.f10.params.toList args.toList ds p := hA0
  rw [Try.params10] at hA hval
  obtain ⟨v0, vs0, d0, ds0, p0, q0, hargs0, rfl, rfl, h0, r0⟩ := trodAll_cons hA
  obtain ⟨v1, vs1, d1, ds1, p1, q1, hargs1, rfl, rfl, h1, r1⟩ := trodAll_cons r0
  obtain ⟨v2, vs2, d2, ds2, p2, q2, hargs2, rfl, rfl, h2, r2⟩ := trodAll_cons r1
  obtain ⟨v3, vs3, d3, ds3, p3, q3, hargs3, rfl, rfl, h3, r3⟩ := trodAll_cons r2
  obtain ⟨v4, vs4, d4, ds4, p4, q4, hargs4, rfl, rfl, h4, r4⟩ := trodAll_cons r3
  obtain ⟨rfl, rfl, rfl⟩ := trodAll_nil r4
  obtain rfl : args = #[v0, v1, v2, v3, v4] := by cases args; simp_all
  obtain ⟨rfl, rfl⟩ := trodVars_none hV
  have k0 := h0
  have lt0 : ∀ x ∈ p0, x.block < W.heap.size := by obtain ⟨m, hm⟩ := k0; exact DataW.trod_lt m _ _ _ hm
  have k1 := h1
  have lt1 : ∀ x ∈ p1, x.block < W.heap.size := by obtain ⟨m, hm⟩ := k1; exact DataW.trod_lt m _ _ _ hm
  have k2 := h2
  have lt2 : ∀ x ∈ p2, x.block < W.heap.size := by obtain ⟨m, hm⟩ := k2; exact DataW.trod_lt m _ _ _ hm
  have k3 := h3
  have lt3 : ∀ x ∈ p3, x.block < W.heap.size := by obtain ⟨m, hm⟩ := k3; exact DataW.trod_lt m _ _ _ hm
  have k4 := h4
  have lt4 : ∀ x ∈ p4, x.block < W.heap.size := by obtain ⟨m, hm⟩ := k4; exact DataW.trod_lt m _ _ _ hm
  have hv0 := hval 0 25 v0 rfl rfl
  have hv1 := hval 1 3 v1 rfl rfl
  have hv2 := hval 2 3 v2 rfl rfl
  have hv3 := hval 3 3 v3 rfl rfl
  have hv4 := hval 4 3 v4 rfl rfl
  obtain ⟨A0, c0, hs0, rfl, RR0, hlen0⟩ := open_region hv0 h0
  obtain ⟨n1, rfl, _, _, wf1⟩ := open_int Try.underlying3 hv1 h1
  have bd1 := wf_bd wf1
  obtain ⟨n2, rfl, _, _, wf2⟩ := open_int Try.underlying3 hv2 h2
  have bd2 := wf_bd wf2
  obtain ⟨n3, rfl, _, _, wf3⟩ := open_int Try.underlying3 hv3 h3
  have bd3 := wf_bd wf3
  obtain ⟨n4, rfl, _, _, wf4⟩ := open_int Try.underlying3 hv4 h4
  have bd4 := wf_bd wf4
  clear hA0 hval0
  refine (law41_any W RR0 hlen0 bd1 bd2 bd3 bd4).mono fun e W' ⟨he, bel⟩ => ?_
  subst he
  exact ⟨_, rfl, _, _, _, [], _, [], hW', trodAll_mk1 (shut_bool Try.underlying4 _), (trodAll_cons_mk (Below.trod laidOut (by kernel_rfl) (of_decide_eq_true (by kernel_rfl)) k0 bel lt0) (trodAll_cons_mk (Below.trod laidOut (by kernel_rfl) (of_decide_eq_true (by kernel_rfl)) k1 bel lt1) (trodAll_cons_mk (Below.trod laidOut (by kernel_rfl) (of_decide_eq_true (by kernel_rfl)) k2 bel lt2) (trodAll_cons_mk (Below.trod laidOut (by kernel_rfl) (of_decide_eq_true (by kernel_rfl)) k3 bel lt3) (trodAll_cons_mk (Below.trod laidOut (by kernel_rfl) (of_decide_eq_true (by kernel_rfl)) k4 bel lt4) trodAll_mk0))))), rfl, bel.frame _, fun h => by cases h⟩

theorem FnExactGrowAlong_holds : Rows.FnExactGrowAlongSaid :=
  OpenClaim.holds_of_wide 10 Try.f10 rfl rfl rfl rfl rfl rfl rfl ⟨rfl, rfl, rfl, rfl, rfl⟩ rfl rfl rfl rfl rfl (by kernel_rfl) Try.func10 (by kernel_rfl)
    (of_decide_eq_true (by kernel_rfl)) (by unfold Func.isWrapper; first | (rw [if_pos (by decide +kernel)]; kernel_rfl) | (rw [if_neg (by decide +kernel)]; exact ⟨rfl, rfl⟩))
    (fun os started H enc _ => FnExactGrowAlong_lifted os started H enc)
#print axioms FnExactGrowAlong_holds

end Go.Proofs.Ytgdleimdenbnlaa
