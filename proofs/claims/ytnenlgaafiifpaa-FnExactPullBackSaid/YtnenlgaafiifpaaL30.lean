/- FnExactPullBack returns true for every argument, and leaves it as it was. No condition. -/
import Derived.Test.YtnenlgaafiifpaaPr
set_option linter.unusedVariables false
set_option linter.unusedSimpArgs false
set_option linter.unusedSectionVars false
namespace Go.Proofs.Ytnenlgaafiifpaa
open Go.ChangeShapes Go.WideShapes Go.ChangeAt Go.RowKit Go.Joins

set_option maxRecDepth 100000 in
set_option maxHeartbeats 8000000 in
theorem law30_any {p : List H3} {Ap : Option Addr} {cp : Nat} {m : List Int} {Am : Option Addr} {cm : Nat} {q : Int} (w : World) (Rp : RL w Ap p) (hlp : p.length ≤ 9223372036854775807) (Rm : RI w Am m) (hlm : m.length ≤ 9223372036854775807) (hq : -9223372036854775808 ≤ q ∧ q ≤ 9223372036854775807) :
    Calls Try.prog 12 #[.agg #[.slice Ap p.length cp], .slice Am m.length cm, .int .i64 q] w fun e w' => e = .returned (.bool true) ∧ Below w.heap.size w w' := by
  by_cases hmm : 1048576 < m.length
  · go_enter Try.func12, Try.ntmps12
    go_wp2
    go_ret
    exact ⟨rfl, (by repeat (first | exact Below.refl _ _ | refine below_ov _ _ ?_ (by first | omega | (simp [ov_size] <;> omega)) | refine Below.alloc ?_ (by first | omega | (simp [ov_size] <;> omega)) _ | refine Below.setCell ?_ (by first | omega | (simp [ov_size] <;> omega)) _ | refine Below.drew ?_ | refine below_drewN ?_ _))⟩
  replace hmm : m.length ≤ 1048576 := by omega
  obtain ⟨zp, hzp⟩ : ∃ z, szL p.length 1048576 = z := ⟨_, rfl⟩
  have HZp := Lib.hid hzp
  by_cases hcp : zp < 0
  · clear hzp
    go_enter Try.func12, Try.ntmps12
    go_wp2_with ((go_at_call 15; (first | (with_reducible refine (calls_ov2 (szRegion_eq (by first | exact HZp) (by omega) ⟨by omega, by omega⟩)).mono ?_) | refine (calls_ov (szRegion_eq (by first | exact HZp) (by omega) ⟨by omega, by omega⟩)).mono ?_); rintro e w' ⟨rfl, x, rfl⟩))
    go_ret
    exact ⟨rfl, (by repeat (first | exact Below.refl _ _ | refine below_ov _ _ ?_ (by first | omega | (simp [ov_size] <;> omega)) | refine Below.alloc ?_ (by first | omega | (simp [ov_size] <;> omega)) _ | refine Below.setCell ?_ (by first | omega | (simp [ov_size] <;> omega)) _ | refine Below.drew ?_ | refine below_drewN ?_ _))⟩
  have hmp : p.length ≤ 1048576 ∧ zp ≤ 1048576 := by unfold szL at hzp; split at hzp <;> omega
  have hmmp := hmp.1
  have hzbp := hmp.2
  clear hmp
  obtain ⟨⟨out, ok⟩, hr⟩ : ∃ r, pullR m q p = r := ⟨_, rfl⟩
  have ho := pullR_short hr
  have HR := Lib.hid hr
  have ORp := owned_reg p
  clear hr hzp
  go_enter Try.func12, Try.ntmps12
  go_wp2_with ((go_at_call 15; (first | (with_reducible refine (calls_ov2 (szRegion_eq (by first | exact HZp) (by omega) ⟨by omega, by omega⟩)).mono ?_) | refine (calls_ov (szRegion_eq (by first | exact HZp) (by omega) ⟨by omega, by omega⟩)).mono ?_); rintro e w' ⟨rfl, x, rfl⟩))
  obtain ⟨V, hV⟩ : ∃ V, (w.alloc (.cells #[.slice Ap p.length cp] 24)) = V := ⟨_, rfl⟩
  have TV : Below w.heap.size w V := by rw [← hV]; exact (by repeat (first | exact Below.refl _ _ | refine below_ov _ _ ?_ (by first | omega | (simp [ov_size] <;> omega)) | refine Below.alloc ?_ (by first | omega | (simp [ov_size] <;> omega)) _ | refine Below.setCell ?_ (by first | omega | (simp [ov_size] <;> omega)) _ | refine Below.drew ?_ | refine below_drewN ?_ _))
  have X0 : V.heap[w.heap.size]? = some (.cells #[.slice Ap p.length cp] 24 (0, 0)) := by rw [← hV]; exact (heap_new_at (by simp) rfl)
  rw [hV]
  clear hV
  obtain ⟨W0, hW⟩ : ∃ W0, W0 = ov V x := ⟨_, rfl⟩
  rw [← hW]
  have T : Below V.heap.size V W0 := by rw [hW]; exact (by repeat (first | exact Below.refl _ _ | refine below_ov _ _ ?_ (by first | omega | (simp [ov_size] <;> omega)) | refine Below.alloc ?_ (by first | omega | (simp [ov_size] <;> omega)) _ | refine Below.setCell ?_ (by first | omega | (simp [ov_size] <;> omega)) _ | refine Below.drew ?_ | refine below_drewN ?_ _))
  clear hW
  have Bp := box_below (Lib.hid X0) T
  clear X0
  have s0 : w.heap.size ≤ V.heap.size := TV.size
  have Sp := Rp.below (TV.trans (T.mono s0))
  have Sm := Rm.below (TV.trans (T.mono s0))
  refine (toRegion_any (Sp.below (by repeat (first | exact Below.refl _ _ | refine below_ov _ _ ?_ (by first | omega | (simp [ov_size] <;> omega)) | refine Below.alloc ?_ (by first | omega | (simp [ov_size] <;> omega)) _ | refine Below.setCell ?_ (by first | omega | (simp [ov_size] <;> omega)) _ | refine Below.drew ?_ | refine below_drewN ?_ _))) (by omega)).mono ?_
  rintro e W1 ⟨aup, dup, rfl, Xup, hb⟩
  have K : Below W0.heap.size W0 W1 := Below.trans (by repeat (first | exact Below.refl _ _ | refine below_ov _ _ ?_ (by first | omega | (simp [ov_size] <;> omega)) | refine Below.alloc ?_ (by first | omega | (simp [ov_size] <;> omega)) _ | refine Below.setCell ?_ (by first | omega | (simp [ov_size] <;> omega)) _ | refine Below.drew ?_ | refine below_drewN ?_ _)) (hb.mono (by first | exact Nat.le_refl _ | simp [ov_size]))
  replace Xup := Xup.weak (B' := V.heap.size) (by have := T.size; simp [ov_size]; omega)
  clear hb
  replace T := T.trans (K.mono T.size)
  replace Bp := box_below Bp K
  clear K Sp Sm
  have Sp := Rp.below (TV.trans (T.mono s0))
  have Sm := Rm.below (TV.trans (T.mono s0))
  have Bpc0 := cell_blk (j := 0) (v := .slice Ap p.length cp) Bp.out rfl
  have Bpl := (Array.getElem?_eq_some_iff.1 Bp.out).1
  go_wp2_with fail
  clear Bpc0 Bpl
  refine (toIntS_any (Sm.below (by repeat (first | exact Below.refl _ _ | refine below_ov _ _ ?_ (by first | omega | (simp [ov_size] <;> omega)) | refine Below.alloc ?_ (by first | omega | (simp [ov_size] <;> omega)) _ | refine Below.setCell ?_ (by first | omega | (simp [ov_size] <;> omega)) _ | refine Below.drew ?_ | refine below_drewN ?_ _))) (by omega)).mono ?_
  rintro e W2 ⟨gum, dum, rfl, loum, Ium, hb⟩
  have K : Below W1.heap.size W1 W2 := Below.trans (by repeat (first | exact Below.refl _ _ | refine below_ov _ _ ?_ (by first | omega | (simp [ov_size] <;> omega)) | refine Below.alloc ?_ (by first | omega | (simp [ov_size] <;> omega)) _ | refine Below.setCell ?_ (by first | omega | (simp [ov_size] <;> omega)) _ | refine Below.drew ?_ | refine below_drewN ?_ _)) (hb.mono (by first | exact Nat.le_refl _ | simp [ov_size]))
  replace loum : V.heap.size ≤ gum := by have := T.size; (first | (simp [ov_size] at loum) | skip); omega
  clear hb
  replace T := T.trans (K.mono T.size)
  replace Bp := box_below Bp K
  replace Xup := Xup.below K
  clear K Sp Sm
  have Sp := Rp.below (TV.trans (T.mono s0))
  have Sm := Rm.below (TV.trans (T.mono s0))
  have Bpc0 := cell_blk (j := 0) (v := .slice Ap p.length cp) Bp.out rfl
  have Bpl := (Array.getElem?_eq_some_iff.1 Bp.out).1
  go_wp2_with fail
  clear Bpc0 Bpl
  refine (spec_PullBack_eq ((Xup.below (by repeat (first | exact Below.refl _ _ | refine below_ov _ _ ?_ (by first | omega | (simp [ov_size] <;> omega)) | refine Below.alloc ?_ (by first | omega | (simp [ov_size] <;> omega)) _ | refine Below.setCell ?_ (by first | omega | (simp [ov_size] <;> omega)) _ | refine Below.drew ?_ | refine below_drewN ?_ _))).r3) (by omega) (Ium.ri.below (by repeat (first | exact Below.refl _ _ | refine below_ov _ _ ?_ (by first | omega | (simp [ov_size] <;> omega)) | refine Below.alloc ?_ (by first | omega | (simp [ov_size] <;> omega)) _ | refine Below.setCell ?_ (by first | omega | (simp [ov_size] <;> omega)) _ | refine Below.drew ?_ | refine below_drewN ?_ _))) (by omega) HR).mono ?_
  rintro e W3 ⟨aw, dw, rfl, Xw, hb⟩
  have apXupXw := apart_new Xup Xw (by simp [ov_size])
  have K : Below W2.heap.size W2 W3 := Below.trans (by repeat (first | exact Below.refl _ _ | refine below_ov _ _ ?_ (by first | omega | (simp [ov_size] <;> omega)) | refine Below.alloc ?_ (by first | omega | (simp [ov_size] <;> omega)) _ | refine Below.setCell ?_ (by first | omega | (simp [ov_size] <;> omega)) _ | refine Below.drew ?_ | refine below_drewN ?_ _)) (hb.mono (by first | exact Nat.le_refl _ | simp [ov_size]))
  replace Xw := Xw.weak (B' := V.heap.size) (by have := T.size; simp [ov_size]; omega)
  clear hb
  replace T := T.trans (K.mono T.size)
  replace Bp := box_below Bp K
  replace Xup := Xup.below K
  replace Ium := Ium.below K
  clear K Sp Sm
  have Sp := Rp.below (TV.trans (T.mono s0))
  have Sm := Rm.below (TV.trans (T.mono s0))
  clear Xup
  clear Ium
  have Bpc0 := cell_blk (j := 0) (v := .slice Ap p.length cp) Bp.out rfl
  have Bpl := (Array.getElem?_eq_some_iff.1 Bp.out).1
  go_wp2_with fail
  obtain ⟨bw, hbx⟩ : ∃ b, b = W3.heap.size := ⟨_, rfl⟩
  rw [← hbx]
  obtain ⟨W4, hW⟩ : ∃ W, W = W3.alloc (.cells #[.slice aw out.length dw] 28) := ⟨_, rfl⟩
  rw [← hW]
  have K : Below W3.heap.size W3 W4 := by rw [hW]; exact (by repeat (first | exact Below.refl _ _ | refine below_ov _ _ ?_ (by first | omega | (simp [ov_size] <;> omega)) | refine Below.alloc ?_ (by first | omega | (simp [ov_size] <;> omega)) _ | refine Below.setCell ?_ (by first | omega | (simp [ov_size] <;> omega)) _ | refine Below.drew ?_ | refine below_drewN ?_ _))
  have Bw := Lib.hid (show W4.heap[bw]? = some (.cells #[.slice aw out.length dw] 28 (0, 0)) by rw [hW, hbx]; exact heap_alloc_new _ _)
  clear hW hbx
  clear Bpc0 Bpl
  replace T := T.trans (K.mono T.size)
  replace Bp := box_below Bp K
  replace Xw := Xw.below K
  clear K Sp Sm
  have Sp := Rp.below (TV.trans (T.mono s0))
  have Sm := Rm.below (TV.trans (T.mono s0))
  refine (toRegion_any (Sp.below (by repeat (first | exact Below.refl _ _ | refine below_ov _ _ ?_ (by first | omega | (simp [ov_size] <;> omega)) | refine Below.alloc ?_ (by first | omega | (simp [ov_size] <;> omega)) _ | refine Below.setCell ?_ (by first | omega | (simp [ov_size] <;> omega)) _ | refine Below.drew ?_ | refine below_drewN ?_ _))) (by omega)).mono ?_
  rintro e W5 ⟨axp, dxp, rfl, Xxp, hb⟩
  have apXwXxp := apart_new Xw Xxp (by simp [ov_size])
  have K : Below W4.heap.size W4 W5 := Below.trans (by repeat (first | exact Below.refl _ _ | refine below_ov _ _ ?_ (by first | omega | (simp [ov_size] <;> omega)) | refine Below.alloc ?_ (by first | omega | (simp [ov_size] <;> omega)) _ | refine Below.setCell ?_ (by first | omega | (simp [ov_size] <;> omega)) _ | refine Below.drew ?_ | refine below_drewN ?_ _)) (hb.mono (by first | exact Nat.le_refl _ | simp [ov_size]))
  replace Xxp := Xxp.weak (B' := V.heap.size) (by have := T.size; simp [ov_size]; omega)
  clear hb
  replace T := T.trans (K.mono T.size)
  replace Bp := box_below Bp K
  replace Bw := box_below Bw K
  replace Xw := Xw.below K
  clear K Sp Sm
  have Sp := Rp.below (TV.trans (T.mono s0))
  have Sm := Rm.below (TV.trans (T.mono s0))
  have Bpc0 := cell_blk (j := 0) (v := .slice Ap p.length cp) Bp.out rfl
  have Bpl := (Array.getElem?_eq_some_iff.1 Bp.out).1
  have Bwc0 := cell_blk (j := 0) (v := .slice aw out.length dw) Bw.out rfl
  have Bwl := (Array.getElem?_eq_some_iff.1 Bw.out).1
  go_wp2_with fail
  obtain ⟨bxp, hbx⟩ : ∃ b, b = W5.heap.size := ⟨_, rfl⟩
  rw [← hbx]
  obtain ⟨W6, hW⟩ : ∃ W, W = W5.alloc (.cells #[.slice axp p.length dxp] 28) := ⟨_, rfl⟩
  rw [← hW]
  have K : Below W5.heap.size W5 W6 := by rw [hW]; exact (by repeat (first | exact Below.refl _ _ | refine below_ov _ _ ?_ (by first | omega | (simp [ov_size] <;> omega)) | refine Below.alloc ?_ (by first | omega | (simp [ov_size] <;> omega)) _ | refine Below.setCell ?_ (by first | omega | (simp [ov_size] <;> omega)) _ | refine Below.drew ?_ | refine below_drewN ?_ _))
  have Bxp := Lib.hid (show W6.heap[bxp]? = some (.cells #[.slice axp p.length dxp] 28 (0, 0)) by rw [hW, hbx]; exact heap_alloc_new _ _)
  clear hW hbx
  clear Bpc0 Bwc0 Bpl Bwl
  replace T := T.trans (K.mono T.size)
  replace Bp := box_below Bp K
  replace Bw := box_below Bw K
  replace Xw := Xw.below K
  replace Xxp := Xxp.below K
  clear K Sp Sm
  have Sp := Rp.below (TV.trans (T.mono s0))
  have Sm := Rm.below (TV.trans (T.mono s0))
  refine (toIntS_any (Sm.below (by repeat (first | exact Below.refl _ _ | refine below_ov _ _ ?_ (by first | omega | (simp [ov_size] <;> omega)) | refine Below.alloc ?_ (by first | omega | (simp [ov_size] <;> omega)) _ | refine Below.setCell ?_ (by first | omega | (simp [ov_size] <;> omega)) _ | refine Below.drew ?_ | refine below_drewN ?_ _))) (by omega)).mono ?_
  rintro e W7 ⟨gxm, dxm, rfl, loxm, Ixm, hb⟩
  have K : Below W6.heap.size W6 W7 := Below.trans (by repeat (first | exact Below.refl _ _ | refine below_ov _ _ ?_ (by first | omega | (simp [ov_size] <;> omega)) | refine Below.alloc ?_ (by first | omega | (simp [ov_size] <;> omega)) _ | refine Below.setCell ?_ (by first | omega | (simp [ov_size] <;> omega)) _ | refine Below.drew ?_ | refine below_drewN ?_ _)) (hb.mono (by first | exact Nat.le_refl _ | simp [ov_size]))
  replace loxm : V.heap.size ≤ gxm := by have := T.size; (first | (simp [ov_size] at loxm) | skip); omega
  clear hb
  replace T := T.trans (K.mono T.size)
  replace Bp := box_below Bp K
  replace Bw := box_below Bw K
  replace Bxp := box_below Bxp K
  replace Xw := Xw.below K
  replace Xxp := Xxp.below K
  clear K Sp Sm
  have Sp := Rp.below (TV.trans (T.mono s0))
  have Sm := Rm.below (TV.trans (T.mono s0))
  have Bpc0 := cell_blk (j := 0) (v := .slice Ap p.length cp) Bp.out rfl
  have Bpl := (Array.getElem?_eq_some_iff.1 Bp.out).1
  have Bwc0 := cell_blk (j := 0) (v := .slice aw out.length dw) Bw.out rfl
  have Bwl := (Array.getElem?_eq_some_iff.1 Bw.out).1
  have Bxpc0 := cell_blk (j := 0) (v := .slice axp p.length dxp) Bxp.out rfl
  have Bxpl := (Array.getElem?_eq_some_iff.1 Bxp.out).1
  go_wp2_with fail
  clear Bpc0 Bwc0 Bxpc0 Bpl Bwl Bxpl
  refine (impl_PullBack_eq ((Xxp.below (by repeat (first | exact Below.refl _ _ | refine below_ov _ _ ?_ (by first | omega | (simp [ov_size] <;> omega)) | refine Below.alloc ?_ (by first | omega | (simp [ov_size] <;> omega)) _ | refine Below.setCell ?_ (by first | omega | (simp [ov_size] <;> omega)) _ | refine Below.drew ?_ | refine below_drewN ?_ _))).r3) (by omega) (Ixm.ri.below (by repeat (first | exact Below.refl _ _ | refine below_ov _ _ ?_ (by first | omega | (simp [ov_size] <;> omega)) | refine Below.alloc ?_ (by first | omega | (simp [ov_size] <;> omega)) _ | refine Below.setCell ?_ (by first | omega | (simp [ov_size] <;> omega)) _ | refine Below.drew ?_ | refine below_drewN ?_ _))) (by omega) HR).mono ?_
  rintro e W8 ⟨ag, dg, rfl, Xg, hb⟩
  have apXwXg := apart_new Xw Xg (by simp [ov_size])
  have apXxpXg := apart_new Xxp Xg (by simp [ov_size])
  have K : Below W7.heap.size W7 W8 := Below.trans (by repeat (first | exact Below.refl _ _ | refine below_ov _ _ ?_ (by first | omega | (simp [ov_size] <;> omega)) | refine Below.alloc ?_ (by first | omega | (simp [ov_size] <;> omega)) _ | refine Below.setCell ?_ (by first | omega | (simp [ov_size] <;> omega)) _ | refine Below.drew ?_ | refine below_drewN ?_ _)) (hb.mono (by first | exact Nat.le_refl _ | simp [ov_size]))
  replace Xg := Xg.weak (B' := V.heap.size) (by have := T.size; simp [ov_size]; omega)
  clear hb
  replace T := T.trans (K.mono T.size)
  replace Bp := box_below Bp K
  replace Bw := box_below Bw K
  replace Bxp := box_below Bxp K
  replace Xw := Xw.below K
  replace Xxp := Xxp.below K
  replace Ixm := Ixm.below K
  clear K Sp Sm
  have Sp := Rp.below (TV.trans (T.mono s0))
  have Sm := Rm.below (TV.trans (T.mono s0))
  have Bpc0 := cell_blk (j := 0) (v := .slice Ap p.length cp) Bp.out rfl
  have Bpl := (Array.getElem?_eq_some_iff.1 Bp.out).1
  have Bwc0 := cell_blk (j := 0) (v := .slice aw out.length dw) Bw.out rfl
  have Bwl := (Array.getElem?_eq_some_iff.1 Bw.out).1
  have Bxpc0 := cell_blk (j := 0) (v := .slice axp p.length dxp) Bxp.out rfl
  have Bxpl := (Array.getElem?_eq_some_iff.1 Bxp.out).1
  go_wp2_with fail
  obtain ⟨bg, hbx⟩ : ∃ b, b = W8.heap.size := ⟨_, rfl⟩
  rw [← hbx]
  obtain ⟨W9, hW⟩ : ∃ W, W = W8.alloc (.cells #[.slice ag out.length dg] 28) := ⟨_, rfl⟩
  rw [← hW]
  have K : Below W8.heap.size W8 W9 := by rw [hW]; exact (by repeat (first | exact Below.refl _ _ | refine below_ov _ _ ?_ (by first | omega | (simp [ov_size] <;> omega)) | refine Below.alloc ?_ (by first | omega | (simp [ov_size] <;> omega)) _ | refine Below.setCell ?_ (by first | omega | (simp [ov_size] <;> omega)) _ | refine Below.drew ?_ | refine below_drewN ?_ _))
  have Bg := Lib.hid (show W9.heap[bg]? = some (.cells #[.slice ag out.length dg] 28 (0, 0)) by rw [hW, hbx]; exact heap_alloc_new _ _)
  clear hW hbx
  clear Bpc0 Bwc0 Bxpc0 Bpl Bwl Bxpl
  replace T := T.trans (K.mono T.size)
  replace Bp := box_below Bp K
  replace Bw := box_below Bw K
  replace Bxp := box_below Bxp K
  replace Xw := Xw.below K
  replace Xxp := Xxp.below K
  replace Xg := Xg.below K
  replace Ixm := Ixm.below K
  clear K Sp Sm
  have Sp := Rp.below (TV.trans (T.mono s0))
  have Sm := Rm.below (TV.trans (T.mono s0))
  have Bpc0 := cell_blk (j := 0) (v := .slice Ap p.length cp) Bp.out rfl
  have Bpl := (Array.getElem?_eq_some_iff.1 Bp.out).1
  have Bwc0 := cell_blk (j := 0) (v := .slice aw out.length dw) Bw.out rfl
  have Bwl := (Array.getElem?_eq_some_iff.1 Bw.out).1
  have Bxpc0 := cell_blk (j := 0) (v := .slice axp p.length dxp) Bxp.out rfl
  have Bxpl := (Array.getElem?_eq_some_iff.1 Bxp.out).1
  have Bgc0 := cell_blk (j := 0) (v := .slice ag out.length dg) Bg.out rfl
  have Bgl := (Array.getElem?_eq_some_iff.1 Bg.out).1
  refine (calls_ov (eqRegion_same (by first | exact ((Xg.below (by repeat (first | exact Below.refl _ _ | refine below_ov _ _ ?_ (by first | omega | (simp [ov_size] <;> omega)) | refine Below.alloc ?_ (by first | omega | (simp [ov_size] <;> omega)) _ | refine Below.setCell ?_ (by first | omega | (simp [ov_size] <;> omega)) _ | refine Below.drew ?_ | refine below_drewN ?_ _))).r3) | exact Xg.r3) (by first | exact ((Xw.below (by repeat (first | exact Below.refl _ _ | refine below_ov _ _ ?_ (by first | omega | (simp [ov_size] <;> omega)) | refine Below.alloc ?_ (by first | omega | (simp [ov_size] <;> omega)) _ | refine Below.setCell ?_ (by first | omega | (simp [ov_size] <;> omega)) _ | refine Below.drew ?_ | refine below_drewN ?_ _))).r3) | exact Xw.r3) (by omega))).mono ?_
  rintro e w' ⟨rfl, x, rfl⟩
  go_wp2_with fail
  clear Bpc0 Bwc0 Bxpc0 Bgc0 Bpl Bwl Bxpl Bgl
  obtain ⟨W10, hW⟩ : ∃ W10, W10 = ov W9 x := ⟨_, rfl⟩
  rw [← hW]
  have K : Below W9.heap.size W9 W10 := by rw [hW]; exact (by repeat (first | exact Below.refl _ _ | refine below_ov _ _ ?_ (by first | omega | (simp [ov_size] <;> omega)) | refine Below.alloc ?_ (by first | omega | (simp [ov_size] <;> omega)) _ | refine Below.setCell ?_ (by first | omega | (simp [ov_size] <;> omega)) _ | refine Below.drew ?_ | refine below_drewN ?_ _))
  clear hW
  replace T := T.trans (K.mono T.size)
  replace Bp := box_below Bp K
  replace Bw := box_below Bw K
  replace Bxp := box_below Bxp K
  replace Bg := box_below Bg K
  replace Xw := Xw.below K
  replace Xxp := Xxp.below K
  replace Xg := Xg.below K
  replace Ixm := Ixm.below K
  clear K Sp Sm
  have Sp := Rp.below (TV.trans (T.mono s0))
  have Sm := Rm.below (TV.trans (T.mono s0))
  have Bpc0 := cell_blk (j := 0) (v := .slice Ap p.length cp) Bp.out rfl
  have Bpl := (Array.getElem?_eq_some_iff.1 Bp.out).1
  have Bwc0 := cell_blk (j := 0) (v := .slice aw out.length dw) Bw.out rfl
  have Bwl := (Array.getElem?_eq_some_iff.1 Bw.out).1
  have Bxpc0 := cell_blk (j := 0) (v := .slice axp p.length dxp) Bxp.out rfl
  have Bxpl := (Array.getElem?_eq_some_iff.1 Bxp.out).1
  have Bgc0 := cell_blk (j := 0) (v := .slice ag out.length dg) Bg.out rfl
  have Bgl := (Array.getElem?_eq_some_iff.1 Bg.out).1
  refine wp_region_rel [.pur [] ?ep0, .pur [] ?ep1, .rel [] [2] false (IsOw (GReg p)), .pur [2] ?ep3, .pur [] ?ep4] _ rfl rfl (by kernel_rfl) (by kernel_rfl) ?hstep (fun vs => ?walkep)
  case' walkep =>
    (refine wpRel_pur rfl rfl (fun x => by ((go_wp2); refine relEnd_pur rfl ?_ (by repeat (first | exact Below.refl _ _ | refine below_ov _ _ ?_ (by first | omega | (simp [ov_size] <;> omega)) | refine Below.alloc ?_ (by first | omega | (simp [ov_size] <;> omega)) _ | refine Below.setCell ?_ (by first | omega | (simp [ov_size] <;> omega)) _ | refine Below.drew ?_ | refine below_drewN ?_ _)); simp only [Act.put, List.setIfInBounds_toArray, List.set_cons_succ, List.set_cons_zero]; rfl)) ?_; simp only [Act.put, List.setIfInBounds_toArray, List.set_cons_succ, List.set_cons_zero])
    (refine wpRel_pur rfl rfl (fun x => by ((go_wp2); refine relEnd_pur rfl ?_ (by repeat (first | exact Below.refl _ _ | refine below_ov _ _ ?_ (by first | omega | (simp [ov_size] <;> omega)) | refine Below.alloc ?_ (by first | omega | (simp [ov_size] <;> omega)) _ | refine Below.setCell ?_ (by first | omega | (simp [ov_size] <;> omega)) _ | refine Below.drew ?_ | refine below_drewN ?_ _)); simp only [Act.put, List.setIfInBounds_toArray, List.set_cons_succ, List.set_cons_zero]; rfl)) ?_; simp only [Act.put, List.setIfInBounds_toArray, List.set_cons_succ, List.set_cons_zero])
    refine wpRel_own rfl rfl rfl (fun x hh => ?_) ?_
    · go_wp2_with fail
      refine (toRegion_any (Sp.below (by repeat (first | exact Below.refl _ _ | refine below_ov _ _ ?_ (by first | omega | (simp [ov_size] <;> omega)) | refine Below.alloc ?_ (by first | omega | (simp [ov_size] <;> omega)) _ | refine Below.setCell ?_ (by first | omega | (simp [ov_size] <;> omega)) _ | refine Below.drew ?_ | refine below_drewN ?_ _))) (by omega)).mono ?_
      rintro e w7 ⟨A7, c7, rfl, Q7, hb7⟩
      go_wp2
      refine relEnd_ow rfl rfl ?_ hb7 ⟨A7, c7, rfl, Q7.weak (by rw [ov_size]; omega)⟩
      (simp only [Act.put, List.setIfInBounds_toArray, List.set_cons_succ, List.set_cons_zero] <;> rfl)
    simp only [Act.put, List.setIfInBounds_toArray, List.set_cons_succ, List.set_cons_zero]
    (refine wpRel_purn rfl rfl (fun x hh => by ((obtain ⟨a, d, f, Q⟩ := isOw_at (hh 2 (by simp)) rfl; simp only [f]); (go_wp2_with (first | (go_at_call 19; refine (calls_ov (eqRegion_same ((Xxp.below (by repeat (first | exact Below.refl _ _ | refine below_ov _ _ ?_ (by first | omega | (simp [ov_size] <;> omega)) | refine Below.alloc ?_ (by first | omega | (simp [ov_size] <;> omega)) _ | refine Below.setCell ?_ (by first | omega | (simp [ov_size] <;> omega)) _ | refine Below.drew ?_ | refine below_drewN ?_ _))).r3) Q.r3 (by omega))).mono ?_; rintro e w' ⟨rfl, x, rfl⟩))); refine relEnd_pur rfl ?_ (by repeat (first | exact Below.refl _ _ | refine below_ov _ _ ?_ (by first | omega | (simp [ov_size] <;> omega)) | refine Below.alloc ?_ (by first | omega | (simp [ov_size] <;> omega)) _ | refine Below.setCell ?_ (by first | omega | (simp [ov_size] <;> omega)) _ | refine Below.drew ?_ | refine below_drewN ?_ _)); simp only [Act.put, List.setIfInBounds_toArray, List.set_cons_succ, List.set_cons_zero]; rfl)) ?_; simp only [Act.put, List.setIfInBounds_toArray, List.set_cons_succ, List.set_cons_zero])
    (refine wpRel_pur rfl rfl (fun x => by ((go_wp2); refine relEnd_pur rfl ?_ (by repeat (first | exact Below.refl _ _ | refine below_ov _ _ ?_ (by first | omega | (simp [ov_size] <;> omega)) | refine Below.alloc ?_ (by first | omega | (simp [ov_size] <;> omega)) _ | refine Below.setCell ?_ (by first | omega | (simp [ov_size] <;> omega)) _ | refine Below.drew ?_ | refine below_drewN ?_ _)); simp only [Act.put, List.setIfInBounds_toArray, List.set_cons_succ, List.set_cons_zero]; rfl)) ?_; simp only [Act.put, List.setIfInBounds_toArray, List.set_cons_succ, List.set_cons_zero])
    refine wpRelE_nilB0 (fun W11 K hh => ?_)
    clear hh
    clear Bpc0 Bwc0 Bxpc0 Bgc0 Bpl Bwl Bxpl Bgl
    replace T := T.trans (K.mono T.size)
    replace Bp := box_below Bp K
    replace Bw := box_below Bw K
    replace Bxp := box_below Bxp K
    replace Bg := box_below Bg K
    replace Xw := Xw.below K
    replace Xxp := Xxp.below K
    replace Xg := Xg.below K
    replace Ixm := Ixm.below K
    clear K Sp Sm
    have Sp := Rp.below (TV.trans (T.mono s0))
    have Sm := Rm.below (TV.trans (T.mono s0))
    have Bpc0 := cell_blk (j := 0) (v := .slice Ap p.length cp) Bp.out rfl
    have Bpl := (Array.getElem?_eq_some_iff.1 Bp.out).1
    have Bwc0 := cell_blk (j := 0) (v := .slice aw out.length dw) Bw.out rfl
    have Bwl := (Array.getElem?_eq_some_iff.1 Bw.out).1
    have Bxpc0 := cell_blk (j := 0) (v := .slice axp p.length dxp) Bxp.out rfl
    have Bxpl := (Array.getElem?_eq_some_iff.1 Bxp.out).1
    have Bgc0 := cell_blk (j := 0) (v := .slice ag out.length dg) Bg.out rfl
    have Bgl := (Array.getElem?_eq_some_iff.1 Bg.out).1
    go_wp2_with fail
    clear Bpc0 Bwc0 Bxpc0 Bgc0 Bpl Bwl Bxpl Bgl
    refine (toIntS_any (Sm.below (by repeat (first | exact Below.refl _ _ | refine below_ov _ _ ?_ (by first | omega | (simp [ov_size] <;> omega)) | refine Below.alloc ?_ (by first | omega | (simp [ov_size] <;> omega)) _ | refine Below.setCell ?_ (by first | omega | (simp [ov_size] <;> omega)) _ | refine Below.drew ?_ | refine below_drewN ?_ _))) (by omega)).mono ?_
    rintro e W12 ⟨gym, dym, rfl, loym, Iym, hb⟩
    have K : Below W11.heap.size W11 W12 := Below.trans (by repeat (first | exact Below.refl _ _ | refine below_ov _ _ ?_ (by first | omega | (simp [ov_size] <;> omega)) | refine Below.alloc ?_ (by first | omega | (simp [ov_size] <;> omega)) _ | refine Below.setCell ?_ (by first | omega | (simp [ov_size] <;> omega)) _ | refine Below.drew ?_ | refine below_drewN ?_ _)) (hb.mono (by first | exact Nat.le_refl _ | simp [ov_size]))
    replace loym : V.heap.size ≤ gym := by have := T.size; (first | (simp [ov_size] at loym) | skip); omega
    clear hb
    replace T := T.trans (K.mono T.size)
    replace Bp := box_below Bp K
    replace Bw := box_below Bw K
    replace Bxp := box_below Bxp K
    replace Bg := box_below Bg K
    replace Xw := Xw.below K
    replace Xxp := Xxp.below K
    replace Xg := Xg.below K
    replace Ixm := Ixm.below K
    clear K Sp Sm
    have Sp := Rp.below (TV.trans (T.mono s0))
    have Sm := Rm.below (TV.trans (T.mono s0))
    have Bpc0 := cell_blk (j := 0) (v := .slice Ap p.length cp) Bp.out rfl
    have Bpl := (Array.getElem?_eq_some_iff.1 Bp.out).1
    have Bwc0 := cell_blk (j := 0) (v := .slice aw out.length dw) Bw.out rfl
    have Bwl := (Array.getElem?_eq_some_iff.1 Bw.out).1
    have Bxpc0 := cell_blk (j := 0) (v := .slice axp p.length dxp) Bxp.out rfl
    have Bxpl := (Array.getElem?_eq_some_iff.1 Bxp.out).1
    have Bgc0 := cell_blk (j := 0) (v := .slice ag out.length dg) Bg.out rfl
    have Bgl := (Array.getElem?_eq_some_iff.1 Bg.out).1
    go_wp2_with fail
    refine (calls_ov (eqIntS_same (Ixm.ri.below (by repeat (first | exact Below.refl _ _ | refine below_ov _ _ ?_ (by first | omega | (simp [ov_size] <;> omega)) | refine Below.alloc ?_ (by first | omega | (simp [ov_size] <;> omega)) _ | refine Below.setCell ?_ (by first | omega | (simp [ov_size] <;> omega)) _ | refine Below.drew ?_ | refine below_drewN ?_ _))) (Iym.ri.below (by repeat (first | exact Below.refl _ _ | refine below_ov _ _ ?_ (by first | omega | (simp [ov_size] <;> omega)) | refine Below.alloc ?_ (by first | omega | (simp [ov_size] <;> omega)) _ | refine Below.setCell ?_ (by first | omega | (simp [ov_size] <;> omega)) _ | refine Below.drew ?_ | refine below_drewN ?_ _))) (by omega))).mono ?_
    rintro e w' ⟨rfl, x, rfl⟩
    go_wp2_with fail
    clear Bpc0 Bwc0 Bxpc0 Bgc0 Bpl Bwl Bxpl Bgl
    obtain ⟨W13, hW⟩ : ∃ W13, W13 = ov W12 x := ⟨_, rfl⟩
    rw [← hW]
    have K : Below W12.heap.size W12 W13 := by rw [hW]; exact (by repeat (first | exact Below.refl _ _ | refine below_ov _ _ ?_ (by first | omega | (simp [ov_size] <;> omega)) | refine Below.alloc ?_ (by first | omega | (simp [ov_size] <;> omega)) _ | refine Below.setCell ?_ (by first | omega | (simp [ov_size] <;> omega)) _ | refine Below.drew ?_ | refine below_drewN ?_ _))
    clear hW
    replace T := T.trans (K.mono T.size)
    replace Bp := box_below Bp K
    replace Bw := box_below Bw K
    replace Bxp := box_below Bxp K
    replace Bg := box_below Bg K
    replace Xw := Xw.below K
    replace Xxp := Xxp.below K
    replace Xg := Xg.below K
    replace Ixm := Ixm.below K
    replace Iym := Iym.below K
    clear K Sp Sm
    have Sp := Rp.below (TV.trans (T.mono s0))
    have Sm := Rm.below (TV.trans (T.mono s0))
    clear Iym
    have Bpc0 := cell_blk (j := 0) (v := .slice Ap p.length cp) Bp.out rfl
    have Bpl := (Array.getElem?_eq_some_iff.1 Bp.out).1
    have Bwc0 := cell_blk (j := 0) (v := .slice aw out.length dw) Bw.out rfl
    have Bwl := (Array.getElem?_eq_some_iff.1 Bw.out).1
    have Bxpc0 := cell_blk (j := 0) (v := .slice axp p.length dxp) Bxp.out rfl
    have Bxpl := (Array.getElem?_eq_some_iff.1 Bxp.out).1
    have Bgc0 := cell_blk (j := 0) (v := .slice ag out.length dg) Bg.out rfl
    have Bgl := (Array.getElem?_eq_some_iff.1 Bg.out).1
    refine (markRegion_any (Xxp.below (by repeat (first | exact Below.refl _ _ | refine below_ov _ _ ?_ (by first | omega | (simp [ov_size] <;> omega)) | refine Below.alloc ?_ (by first | omega | (simp [ov_size] <;> omega)) _ | refine Below.setCell ?_ (by first | omega | (simp [ov_size] <;> omega)) _ | refine Below.drew ?_ | refine below_drewN ?_ _))) (by omega) ⟨by omega, by omega⟩).mono ?_
    rintro e W14 ⟨rfl, Yxp, hg⟩
    have K : W13.grownBy W14 _ := grown_pre (by exact (by repeat (first | exact Below.refl _ _ | refine below_ov _ _ ?_ (by first | omega | (simp [ov_size] <;> omega)) | refine Below.alloc ?_ (by first | omega | (simp [ov_size] <;> omega)) _ | refine Below.setCell ?_ (by first | omega | (simp [ov_size] <;> omega)) _ | refine Below.drew ?_ | refine below_drewN ?_ _))) hg
    clear hg
    replace T := grown_below T K (fun k hk => (Xxp.lt k hk).1) (Nat.le_refl _)
    clear Bpc0 Bwc0 Bxpc0 Bgc0 Bpl Bwl Bxpl Bgl
    replace Bp := box_grown Bp K (Xxp.ne_box Bp.out (by decide))
    replace Bw := box_grown Bw K (Xxp.ne_box Bw.out (by decide))
    replace Bxp := box_grown Bxp K (Xxp.ne_box Bxp.out (by decide))
    replace Bg := box_grown Bg K (Xxp.ne_box Bg.out (by decide))
    replace Xw := Xw.grown Xxp K apXwXxp.symm
    replace Xg := Xg.grown Xxp K apXxpXg
    replace Ixm := Ixm.grown K (Xxp.ne_i Ixm (by decide))
    clear K Sp Sm Xxp
    have Sp := Rp.below (TV.trans (T.mono s0))
    have Sm := Rm.below (TV.trans (T.mono s0))
    clear Bxp Yxp
    have Bpc0 := cell_blk (j := 0) (v := .slice Ap p.length cp) Bp.out rfl
    have Bpl := (Array.getElem?_eq_some_iff.1 Bp.out).1
    have Bwc0 := cell_blk (j := 0) (v := .slice aw out.length dw) Bw.out rfl
    have Bwl := (Array.getElem?_eq_some_iff.1 Bw.out).1
    have Bgc0 := cell_blk (j := 0) (v := .slice ag out.length dg) Bg.out rfl
    have Bgl := (Array.getElem?_eq_some_iff.1 Bg.out).1
    go_wp2_with fail
    refine (markIntS_any (Ixm.below (by repeat (first | exact Below.refl _ _ | refine below_ov _ _ ?_ (by first | omega | (simp [ov_size] <;> omega)) | refine Below.alloc ?_ (by first | omega | (simp [ov_size] <;> omega)) _ | refine Below.setCell ?_ (by first | omega | (simp [ov_size] <;> omega)) _ | refine Below.drew ?_ | refine below_drewN ?_ _))) (by omega) ⟨by omega, by omega⟩).mono ?_
    rintro e W15 ⟨rfl, hg⟩
    have K : W14.grownBy W15 _ := grown_pre (by exact (by repeat (first | exact Below.refl _ _ | refine below_ov _ _ ?_ (by first | omega | (simp [ov_size] <;> omega)) | refine Below.alloc ?_ (by first | omega | (simp [ov_size] <;> omega)) _ | refine Below.setCell ?_ (by first | omega | (simp [ov_size] <;> omega)) _ | refine Below.drew ?_ | refine below_drewN ?_ _))) hg
    clear hg
    replace T := grown_below (v := .slice (some ⟨gxm, 0, none⟩) 0 0) T K (fun k hk => by have hk : some gxm = some k := hk; injection hk with hk; omega) (Nat.le_refl _)
    clear Bpc0 Bwc0 Bgc0 Bpl Bwl Bgl
    replace Bp := box_grown_i Bp K (Ixm.ne Bp.out (by decide))
    replace Bw := box_grown_i Bw K (Ixm.ne Bw.out (by decide))
    replace Bg := box_grown_i Bg K (Ixm.ne Bg.out (by decide))
    replace Xw := Xw.grown_i K (Ixm.apart Xw (by decide))
    replace Xg := Xg.grown_i K (Ixm.apart Xg (by decide))
    clear K Sp Sm Ixm loxm
    have Sp := Rp.below (TV.trans (T.mono s0))
    have Sm := Rm.below (TV.trans (T.mono s0))
    have Bpc0 := cell_blk (j := 0) (v := .slice Ap p.length cp) Bp.out rfl
    have Bpl := (Array.getElem?_eq_some_iff.1 Bp.out).1
    have Bwc0 := cell_blk (j := 0) (v := .slice aw out.length dw) Bw.out rfl
    have Bwl := (Array.getElem?_eq_some_iff.1 Bw.out).1
    have Bgc0 := cell_blk (j := 0) (v := .slice ag out.length dg) Bg.out rfl
    have Bgl := (Array.getElem?_eq_some_iff.1 Bg.out).1
    go_wp2_with ((go_at_call 19; (first | (with_reducible refine (calls_ov2 (eqRegion_same (by first | exact ((Xg.below (by repeat (first | exact Below.refl _ _ | refine below_ov _ _ ?_ (by first | omega | (simp [ov_size] <;> omega)) | refine Below.alloc ?_ (by first | omega | (simp [ov_size] <;> omega)) _ | refine Below.setCell ?_ (by first | omega | (simp [ov_size] <;> omega)) _ | refine Below.drew ?_ | refine below_drewN ?_ _))).r3) | exact Xg.r3) (by first | exact ((Xw.below (by repeat (first | exact Below.refl _ _ | refine below_ov _ _ ?_ (by first | omega | (simp [ov_size] <;> omega)) | refine Below.alloc ?_ (by first | omega | (simp [ov_size] <;> omega)) _ | refine Below.setCell ?_ (by first | omega | (simp [ov_size] <;> omega)) _ | refine Below.drew ?_ | refine below_drewN ?_ _))).r3) | exact Xw.r3) (by omega))).mono ?_) | refine (calls_ov (eqRegion_same (by first | exact ((Xg.below (by repeat (first | exact Below.refl _ _ | refine below_ov _ _ ?_ (by first | omega | (simp [ov_size] <;> omega)) | refine Below.alloc ?_ (by first | omega | (simp [ov_size] <;> omega)) _ | refine Below.setCell ?_ (by first | omega | (simp [ov_size] <;> omega)) _ | refine Below.drew ?_ | refine below_drewN ?_ _))).r3) | exact Xg.r3) (by first | exact ((Xw.below (by repeat (first | exact Below.refl _ _ | refine below_ov _ _ ?_ (by first | omega | (simp [ov_size] <;> omega)) | refine Below.alloc ?_ (by first | omega | (simp [ov_size] <;> omega)) _ | refine Below.setCell ?_ (by first | omega | (simp [ov_size] <;> omega)) _ | refine Below.drew ?_ | refine below_drewN ?_ _))).r3) | exact Xw.r3) (by omega))).mono ?_); rintro e w' ⟨rfl, x, rfl⟩))
    -- g0 marked
    refine (markRegion_any (Xg.below (by repeat (first | exact Below.refl _ _ | refine below_ov _ _ ?_ (by first | omega | (simp [ov_size] <;> omega)) | refine Below.alloc ?_ (by first | omega | (simp [ov_size] <;> omega)) _ | refine Below.setCell ?_ (by first | omega | (simp [ov_size] <;> omega)) _ | refine Below.drew ?_ | refine below_drewN ?_ _))) (by omega) ⟨by omega, by omega⟩).mono ?_
    rintro e W16 ⟨rfl, Yg, hg⟩
    have K : W15.grownBy W16 _ := grown_pre (by exact (by repeat (first | exact Below.refl _ _ | refine below_ov _ _ ?_ (by first | omega | (simp [ov_size] <;> omega)) | refine Below.alloc ?_ (by first | omega | (simp [ov_size] <;> omega)) _ | refine Below.setCell ?_ (by first | omega | (simp [ov_size] <;> omega)) _ | refine Below.drew ?_ | refine below_drewN ?_ _))) hg
    clear hg
    replace T := grown_below T K (fun k hk => (Xg.lt k hk).1) (Nat.le_refl _)
    clear Bpc0 Bwc0 Bgc0 Bpl Bwl Bgl
    replace Bp := box_grown Bp K (Xg.ne_box Bp.out (by decide))
    replace Bw := box_grown Bw K (Xg.ne_box Bw.out (by decide))
    replace Bg := box_grown Bg K (Xg.ne_box Bg.out (by decide))
    replace Xw := Xw.grown Xg K apXwXg.symm
    clear K Sp Sm Xg
    have Sp := Rp.below (TV.trans (T.mono s0))
    have Sm := Rm.below (TV.trans (T.mono s0))
    have Bpc0 := cell_blk (j := 0) (v := .slice Ap p.length cp) Bp.out rfl
    have Bpl := (Array.getElem?_eq_some_iff.1 Bp.out).1
    have Bwc0 := cell_blk (j := 0) (v := .slice aw out.length dw) Bw.out rfl
    have Bwl := (Array.getElem?_eq_some_iff.1 Bw.out).1
    have Bgc0 := cell_blk (j := 0) (v := .slice ag out.length dg) Bg.out rfl
    have Bgl := (Array.getElem?_eq_some_iff.1 Bg.out).1
    go_wp2_with (first | (go_at_call 21; (first | (with_reducible refine (calls_ov2 (heldRegion_any (by first | exact ((Yg.below (by repeat (first | exact Below.refl _ _ | refine below_ov _ _ ?_ (by first | omega | (simp [ov_size] <;> omega)) | refine Below.alloc ?_ (by first | omega | (simp [ov_size] <;> omega)) _ | refine Below.setCell ?_ (by first | omega | (simp [ov_size] <;> omega)) _ | refine Below.drew ?_ | refine below_drewN ?_ _))).r3) | exact Yg.r3) (by omega))).mono ?_) | refine (calls_ov (heldRegion_any (by first | exact ((Yg.below (by repeat (first | exact Below.refl _ _ | refine below_ov _ _ ?_ (by first | omega | (simp [ov_size] <;> omega)) | refine Below.alloc ?_ (by first | omega | (simp [ov_size] <;> omega)) _ | refine Below.setCell ?_ (by first | omega | (simp [ov_size] <;> omega)) _ | refine Below.drew ?_ | refine below_drewN ?_ _))).r3) | exact Yg.r3) (by omega))).mono ?_); rintro e w' ⟨rfl, x, rfl⟩))
    clear Bpc0 Bwc0 Bgc0 Bpl Bwl Bgl
    obtain ⟨W17, hW⟩ : ∃ W17, W17 = ov W16 x := ⟨_, rfl⟩
    rw [← hW]
    have K : Below W16.heap.size W16 W17 := by rw [hW]; exact (by repeat (first | exact Below.refl _ _ | refine below_ov _ _ ?_ (by first | omega | (simp [ov_size] <;> omega)) | refine Below.alloc ?_ (by first | omega | (simp [ov_size] <;> omega)) _ | refine Below.setCell ?_ (by first | omega | (simp [ov_size] <;> omega)) _ | refine Below.drew ?_ | refine below_drewN ?_ _))
    clear hW
    replace T := T.trans (K.mono T.size)
    replace Bp := box_below Bp K
    replace Bw := box_below Bw K
    replace Bg := box_below Bg K
    replace Xw := Xw.below K
    replace Yg := Yg.below K
    clear K Sp Sm
    have Sp := Rp.below (TV.trans (T.mono s0))
    have Sm := Rm.below (TV.trans (T.mono s0))
    refine (toRegion_any (Sp.below (by repeat (first | exact Below.refl _ _ | refine below_ov _ _ ?_ (by first | omega | (simp [ov_size] <;> omega)) | refine Below.alloc ?_ (by first | omega | (simp [ov_size] <;> omega)) _ | refine Below.setCell ?_ (by first | omega | (simp [ov_size] <;> omega)) _ | refine Below.drew ?_ | refine below_drewN ?_ _))) (by omega)).mono ?_
    rintro e W18 ⟨avp, dvp, rfl, Xvp, hb⟩
    have apXwXvp := apart_new Xw Xvp (by simp [ov_size])
    have apYgXvp := apart_new Yg Xvp (by simp [ov_size])
    have K : Below W17.heap.size W17 W18 := Below.trans (by repeat (first | exact Below.refl _ _ | refine below_ov _ _ ?_ (by first | omega | (simp [ov_size] <;> omega)) | refine Below.alloc ?_ (by first | omega | (simp [ov_size] <;> omega)) _ | refine Below.setCell ?_ (by first | omega | (simp [ov_size] <;> omega)) _ | refine Below.drew ?_ | refine below_drewN ?_ _)) (hb.mono (by first | exact Nat.le_refl _ | simp [ov_size]))
    replace Xvp := Xvp.weak (B' := V.heap.size) (by have := T.size; simp [ov_size]; omega)
    clear hb
    replace T := T.trans (K.mono T.size)
    replace Bp := box_below Bp K
    replace Bw := box_below Bw K
    replace Bg := box_below Bg K
    replace Xw := Xw.below K
    replace Yg := Yg.below K
    clear K Sp Sm
    have Sp := Rp.below (TV.trans (T.mono s0))
    have Sm := Rm.below (TV.trans (T.mono s0))
    have Bpc0 := cell_blk (j := 0) (v := .slice Ap p.length cp) Bp.out rfl
    have Bpl := (Array.getElem?_eq_some_iff.1 Bp.out).1
    have Bwc0 := cell_blk (j := 0) (v := .slice aw out.length dw) Bw.out rfl
    have Bwl := (Array.getElem?_eq_some_iff.1 Bw.out).1
    have Bgc0 := cell_blk (j := 0) (v := .slice ag out.length dg) Bg.out rfl
    have Bgl := (Array.getElem?_eq_some_iff.1 Bg.out).1
    go_wp2_with fail
    clear Bpc0 Bwc0 Bgc0 Bpl Bwl Bgl
    refine (toIntS_any (Sm.below (by repeat (first | exact Below.refl _ _ | refine below_ov _ _ ?_ (by first | omega | (simp [ov_size] <;> omega)) | refine Below.alloc ?_ (by first | omega | (simp [ov_size] <;> omega)) _ | refine Below.setCell ?_ (by first | omega | (simp [ov_size] <;> omega)) _ | refine Below.drew ?_ | refine below_drewN ?_ _))) (by omega)).mono ?_
    rintro e W19 ⟨gvm, dvm, rfl, lovm, Ivm, hb⟩
    have K : Below W18.heap.size W18 W19 := Below.trans (by repeat (first | exact Below.refl _ _ | refine below_ov _ _ ?_ (by first | omega | (simp [ov_size] <;> omega)) | refine Below.alloc ?_ (by first | omega | (simp [ov_size] <;> omega)) _ | refine Below.setCell ?_ (by first | omega | (simp [ov_size] <;> omega)) _ | refine Below.drew ?_ | refine below_drewN ?_ _)) (hb.mono (by first | exact Nat.le_refl _ | simp [ov_size]))
    replace lovm : V.heap.size ≤ gvm := by have := T.size; (first | (simp [ov_size] at lovm) | skip); omega
    clear hb
    replace T := T.trans (K.mono T.size)
    replace Bp := box_below Bp K
    replace Bw := box_below Bw K
    replace Bg := box_below Bg K
    replace Xw := Xw.below K
    replace Yg := Yg.below K
    replace Xvp := Xvp.below K
    clear K Sp Sm
    have Sp := Rp.below (TV.trans (T.mono s0))
    have Sm := Rm.below (TV.trans (T.mono s0))
    have Bpc0 := cell_blk (j := 0) (v := .slice Ap p.length cp) Bp.out rfl
    have Bpl := (Array.getElem?_eq_some_iff.1 Bp.out).1
    have Bwc0 := cell_blk (j := 0) (v := .slice aw out.length dw) Bw.out rfl
    have Bwl := (Array.getElem?_eq_some_iff.1 Bw.out).1
    have Bgc0 := cell_blk (j := 0) (v := .slice ag out.length dg) Bg.out rfl
    have Bgl := (Array.getElem?_eq_some_iff.1 Bg.out).1
    go_wp2_with fail
    clear Bpc0 Bwc0 Bgc0 Bpl Bwl Bgl
    refine (impl_PullBack_eq ((Xvp.below (by repeat (first | exact Below.refl _ _ | refine below_ov _ _ ?_ (by first | omega | (simp [ov_size] <;> omega)) | refine Below.alloc ?_ (by first | omega | (simp [ov_size] <;> omega)) _ | refine Below.setCell ?_ (by first | omega | (simp [ov_size] <;> omega)) _ | refine Below.drew ?_ | refine below_drewN ?_ _))).r3) (by omega) (Ivm.ri.below (by repeat (first | exact Below.refl _ _ | refine below_ov _ _ ?_ (by first | omega | (simp [ov_size] <;> omega)) | refine Below.alloc ?_ (by first | omega | (simp [ov_size] <;> omega)) _ | refine Below.setCell ?_ (by first | omega | (simp [ov_size] <;> omega)) _ | refine Below.drew ?_ | refine below_drewN ?_ _))) (by omega) HR).mono ?_
    rintro e W20 ⟨ah, dh, rfl, Xh, hb⟩
    have apXwXh := apart_new Xw Xh (by simp [ov_size])
    have apYgXh := apart_new Yg Xh (by simp [ov_size])
    have apXvpXh := apart_new Xvp Xh (by simp [ov_size])
    have K : Below W19.heap.size W19 W20 := Below.trans (by repeat (first | exact Below.refl _ _ | refine below_ov _ _ ?_ (by first | omega | (simp [ov_size] <;> omega)) | refine Below.alloc ?_ (by first | omega | (simp [ov_size] <;> omega)) _ | refine Below.setCell ?_ (by first | omega | (simp [ov_size] <;> omega)) _ | refine Below.drew ?_ | refine below_drewN ?_ _)) (hb.mono (by first | exact Nat.le_refl _ | simp [ov_size]))
    replace Xh := Xh.weak (B' := V.heap.size) (by have := T.size; simp [ov_size]; omega)
    clear hb
    replace T := T.trans (K.mono T.size)
    replace Bp := box_below Bp K
    replace Bw := box_below Bw K
    replace Bg := box_below Bg K
    replace Xw := Xw.below K
    replace Yg := Yg.below K
    replace Xvp := Xvp.below K
    replace Ivm := Ivm.below K
    clear K Sp Sm
    have Sp := Rp.below (TV.trans (T.mono s0))
    have Sm := Rm.below (TV.trans (T.mono s0))
    have Bpc0 := cell_blk (j := 0) (v := .slice Ap p.length cp) Bp.out rfl
    have Bpl := (Array.getElem?_eq_some_iff.1 Bp.out).1
    have Bwc0 := cell_blk (j := 0) (v := .slice aw out.length dw) Bw.out rfl
    have Bwl := (Array.getElem?_eq_some_iff.1 Bw.out).1
    have Bgc0 := cell_blk (j := 0) (v := .slice ag out.length dg) Bg.out rfl
    have Bgl := (Array.getElem?_eq_some_iff.1 Bg.out).1
    go_wp2_with (first | (go_at_call 21; (first | (with_reducible refine (calls_ov2 (heldRegion_any (by first | exact ((Yg.below (by repeat (first | exact Below.refl _ _ | refine below_ov _ _ ?_ (by first | omega | (simp [ov_size] <;> omega)) | refine Below.alloc ?_ (by first | omega | (simp [ov_size] <;> omega)) _ | refine Below.setCell ?_ (by first | omega | (simp [ov_size] <;> omega)) _ | refine Below.drew ?_ | refine below_drewN ?_ _))).r3) | exact Yg.r3) (by omega))).mono ?_) | refine (calls_ov (heldRegion_any (by first | exact ((Yg.below (by repeat (first | exact Below.refl _ _ | refine below_ov _ _ ?_ (by first | omega | (simp [ov_size] <;> omega)) | refine Below.alloc ?_ (by first | omega | (simp [ov_size] <;> omega)) _ | refine Below.setCell ?_ (by first | omega | (simp [ov_size] <;> omega)) _ | refine Below.drew ?_ | refine below_drewN ?_ _))).r3) | exact Yg.r3) (by omega))).mono ?_); rintro e w' ⟨rfl, x, rfl⟩) | (go_at_call 19; (first | (with_reducible refine (calls_ov2 (eqRegion_same (by first | exact ((Xh.below (by repeat (first | exact Below.refl _ _ | refine below_ov _ _ ?_ (by first | omega | (simp [ov_size] <;> omega)) | refine Below.alloc ?_ (by first | omega | (simp [ov_size] <;> omega)) _ | refine Below.setCell ?_ (by first | omega | (simp [ov_size] <;> omega)) _ | refine Below.drew ?_ | refine below_drewN ?_ _))).r3) | exact Xh.r3) (by first | exact ((Xw.below (by repeat (first | exact Below.refl _ _ | refine below_ov _ _ ?_ (by first | omega | (simp [ov_size] <;> omega)) | refine Below.alloc ?_ (by first | omega | (simp [ov_size] <;> omega)) _ | refine Below.setCell ?_ (by first | omega | (simp [ov_size] <;> omega)) _ | refine Below.drew ?_ | refine below_drewN ?_ _))).r3) | exact Xw.r3) (by omega))).mono ?_) | refine (calls_ov (eqRegion_same (by first | exact ((Xh.below (by repeat (first | exact Below.refl _ _ | refine below_ov _ _ ?_ (by first | omega | (simp [ov_size] <;> omega)) | refine Below.alloc ?_ (by first | omega | (simp [ov_size] <;> omega)) _ | refine Below.setCell ?_ (by first | omega | (simp [ov_size] <;> omega)) _ | refine Below.drew ?_ | refine below_drewN ?_ _))).r3) | exact Xh.r3) (by first | exact ((Xw.below (by repeat (first | exact Below.refl _ _ | refine below_ov _ _ ?_ (by first | omega | (simp [ov_size] <;> omega)) | refine Below.alloc ?_ (by first | omega | (simp [ov_size] <;> omega)) _ | refine Below.setCell ?_ (by first | omega | (simp [ov_size] <;> omega)) _ | refine Below.drew ?_ | refine below_drewN ?_ _))).r3) | exact Xw.r3) (by omega))).mono ?_); rintro e w' ⟨rfl, x, rfl⟩))
    go_ret
    exact ⟨rfl, (by repeat (first | exact TV.trans (T.mono s0) | refine below_ov _ _ ?_ (by first | omega | (simp [ov_size] <;> omega)) | refine Below.alloc ?_ (by first | omega | (simp [ov_size] <;> omega)) _ | refine Below.setCell ?_ (by first | omega | (simp [ov_size] <;> omega)) _ | refine Below.drew ?_ | refine below_drewN ?_ _))⟩
  case' hstep => exact (by repeat (first | exact all_nil | refine all_cons trivial ?_ | refine all_cons isAl_stable ?_ | refine all_cons isSt_stable ?_ | refine all_cons isStB_stable ?_ | refine all_cons (isOw_stable (by assumption)) ?_))
set_option maxRecDepth 100000 in
theorem FnExactPullBack_lifted (os : Os) (started : os.Started) (H : Type) (enc : TypeId × Value → H) :
    ReturnsInHanded {} Try.checked os 12 .any (Rows.fnExactPullBackSpec.pre6 enc Try.prog Try.f12 Rows.fnExactPullBackRow.domain false) (Rows.fnExactPullBackSpec.post enc Try.prog Try.f12 false true false false) := by
  refine returnsInHanded_of_change (C := Try.checked) own started (by kernel_rfl) Try.func12
    (ChangeSpec.witness6 (enc := enc) (C := Try.checked) false ⟨#[], #[.agg #[.slice none 0 0], .slice none 0 0, .int .i64 0], []⟩ 8 (by kernel_rfl) (by kernel_rfl) (by kernel_rfl) (by kernel_rfl)) ?_
  intro W base args ds gs before hval0 hW hcnd _
  have hval : ∀ (j : Nat) t v, Try.f12.params[j]? = some t → args[j]? = some v → Value.okWide Try.prog W .any base t v := hval0
  have hW' := hW
  obtain ⟨p, q, hA0, hV, rfl, hfz, hnd⟩ := hW
  have hA : DataW.TrodAll enc Try.prog W 0 (fun _ => true) true Try.f12.params.toList args.toList ds p := hA0
  rw [Try.params12] at hA hval
  obtain ⟨v0, vs0, d0, ds0, p0, q0, hargs0, rfl, rfl, h0, r0⟩ := trodAll_cons hA
  obtain ⟨v1, vs1, d1, ds1, p1, q1, hargs1, rfl, rfl, h1, r1⟩ := trodAll_cons r0
  obtain ⟨v2, vs2, d2, ds2, p2, q2, hargs2, rfl, rfl, h2, r2⟩ := trodAll_cons r1
  obtain ⟨rfl, rfl, rfl⟩ := trodAll_nil r2
  obtain rfl : args = #[v0, v1, v2] := by cases args; simp_all
  obtain ⟨rfl, rfl⟩ := trodVars_none hV
  have k0 := h0
  have lt0 : ∀ x ∈ p0, x.block < W.heap.size := by obtain ⟨m, hm⟩ := k0; exact DataW.trod_lt m _ _ _ hm
  have k1 := h1
  have lt1 : ∀ x ∈ p1, x.block < W.heap.size := by obtain ⟨m, hm⟩ := k1; exact DataW.trod_lt m _ _ _ hm
  have k2 := h2
  have lt2 : ∀ x ∈ p2, x.block < W.heap.size := by obtain ⟨m, hm⟩ := k2; exact DataW.trod_lt m _ _ _ hm
  have hv0 := hval 0 24 v0 rfl rfl
  have hv1 := hval 1 54 v1 rfl rfl
  have hv2 := hval 2 3 v2 rfl rfl
  obtain ⟨A0, c0, hs0, rfl, RR0, hlen0⟩ := open_region hv0 h0
  obtain ⟨A1, c1, hs1, rfl, RR1, hlen1, _⟩ := open_ints hv1 h1
  obtain ⟨n2, rfl, _, _, wf2⟩ := open_int Try.underlying3 hv2 h2
  have bd2 := wf_bd wf2
  clear hA0 hval0
  refine (law30_any W RR0 hlen0 RR1 hlen1 bd2).mono fun e W' ⟨he, bel⟩ => ?_
  subst he
  exact ⟨_, rfl, _, _, _, [], _, [], hW', trodAll_mk1 (shut_bool Try.underlying4 _), (trodAll_cons_mk (Below.trod laidOut (by kernel_rfl) (of_decide_eq_true (by kernel_rfl)) k0 bel lt0) (trodAll_cons_mk (Below.trod laidOut (by kernel_rfl) (of_decide_eq_true (by kernel_rfl)) k1 bel lt1) (trodAll_cons_mk (Below.trod laidOut (by kernel_rfl) (of_decide_eq_true (by kernel_rfl)) k2 bel lt2) trodAll_mk0))), rfl, bel.frame _, fun h => by cases h⟩

theorem FnExactPullBack_holds : Rows.FnExactPullBackSaid :=
  OpenClaim.holds_of_wide 12 Try.f12 rfl rfl rfl rfl rfl rfl rfl ⟨rfl, rfl, rfl, rfl, rfl⟩ rfl rfl rfl rfl rfl (by kernel_rfl) Try.func12 (by kernel_rfl)
    (of_decide_eq_true (by kernel_rfl)) (by unfold Func.isWrapper; first | (rw [if_pos (by decide +kernel)]; kernel_rfl) | (rw [if_neg (by decide +kernel)]; exact ⟨rfl, rfl⟩))
    (fun os started H enc _ => FnExactPullBack_lifted os started H enc)
#print axioms FnExactPullBack_holds

end Go.Proofs.Ytnenlgaafiifpaa
