/- FnExactMeetRegions returns true for every argument, and leaves it as it was. No condition. -/
import Derived.Test.YtnenlgaafiifpaaMq
set_option linter.unusedVariables false
set_option linter.unusedSimpArgs false
set_option linter.unusedSectionVars false
namespace Go.Proofs.Ytnenlgaafiifpaa
open Go.ChangeShapes Go.WideShapes Go.ChangeAt Go.RowKit Go.Joins

theorem meetQ_short {p q out : List H3} {ok : Bool} (hr : meetQ p q = (out, ok)) : out.length ≤ 1000 := by
  unfold meetQ at hr
  split at hr
  · rename_i hc
    split at hr
    · simp at hr; rw [hr.1]; simp
    · rename_i hne
      obtain ⟨h1, h2⟩ := not_or.1 hne
      have := (meetq_few hc.1 hc.2.1 h1 h2 hc.2.2).2.1
      simp at hr
      rw [← hr.1]; omega
  · simp at hr; rw [hr.1]; simp

set_option maxRecDepth 100000 in
set_option maxHeartbeats 8000000 in
theorem law12_any {p q : List H3} {A A2 : Option Addr} {c c2 : Nat} (w : World) (R : RL w A p) (R2 : RL w A2 q) (hl : p.length ≤ 9223372036854775807) (hl2 : q.length ≤ 9223372036854775807) :
    Calls Try.prog 3 #[.agg #[.slice A p.length c], .agg #[.slice A2 q.length c2]] w fun e w' => e = .returned (.bool true) ∧ Below w.heap.size w w' := by
  obtain ⟨z, hz⟩ : ∃ z, szL p.length 1048576 = z := ⟨_, rfl⟩
  have HZ := Lib.hid hz
  by_cases hc : z < 0
  · clear hz
    go_enter Try.func3, Try.ntmps3
    go_wp2_with ((go_at_call 15; (first | (with_reducible refine (calls_ov2 (szRegion_eq (by exact HZ) hl ⟨by omega, by omega⟩)).mono ?_) | refine (calls_ov (szRegion_eq (by exact HZ) hl ⟨by omega, by omega⟩)).mono ?_); rintro e w' ⟨rfl, x, rfl⟩))
    go_ret
    exact ⟨rfl, (by repeat (first | exact Below.refl _ _ | refine below_ov _ _ ?_ (by first | omega | (simp [ov_size] <;> omega)) | refine Below.alloc ?_ (by first | omega | (simp [ov_size] <;> omega)) _ | refine Below.setCell ?_ (by first | omega | (simp [ov_size] <;> omega)) _ | refine Below.drew ?_ | refine below_drewN ?_ _))⟩
  have hm : p.length ≤ 1048576 ∧ z ≤ 1048576 := by unfold szL at hz; split at hz <;> omega
  obtain ⟨z2, hz2⟩ : ∃ z2, szL q.length z = z2 := ⟨_, rfl⟩
  have HZ2 := Lib.hid hz2
  by_cases hc2 : z2 < 0
  · clear hz hz2
    go_enter Try.func3, Try.ntmps3
    go_wp2_with ((go_at_call 15; (first | (with_reducible refine (calls_ov2 (szRegion_eq (by first | exact HZ | exact HZ2) (by omega) ⟨by omega, by omega⟩)).mono ?_) | refine (calls_ov (szRegion_eq (by first | exact HZ | exact HZ2) (by omega) ⟨by omega, by omega⟩)).mono ?_); rintro e w' ⟨rfl, x, rfl⟩))
    go_ret
    exact ⟨rfl, (by repeat (first | exact Below.refl _ _ | refine below_ov _ _ ?_ (by first | omega | (simp [ov_size] <;> omega)) | refine Below.alloc ?_ (by first | omega | (simp [ov_size] <;> omega)) _ | refine Below.setCell ?_ (by first | omega | (simp [ov_size] <;> omega)) _ | refine Below.drew ?_ | refine below_drewN ?_ _))⟩
  have hm2 : q.length ≤ 1048576 := by unfold szL at hz2; split at hz2 <;> omega
  have hm1 := hm.1
  obtain ⟨⟨out, ok⟩, hr⟩ : ∃ r, meetQ p q = r := ⟨_, rfl⟩
  have ho := meetQ_short hr
  have HR := Lib.hid hr
  have OR := owned_reg p
  have OR2 := owned_reg q
  have OO := owned_reg out
  have OT := owned_tup out ok
  clear hr hz hz2
  go_enter Try.func3, Try.ntmps3
  go_wp2_with ((go_at_call 15; (first | (with_reducible refine (calls_ov2 (szRegion_eq (by first | exact HZ | exact HZ2) (by omega) ⟨by omega, by omega⟩)).mono ?_) | refine (calls_ov (szRegion_eq (by first | exact HZ | exact HZ2) (by omega) ⟨by omega, by omega⟩)).mono ?_); rintro e w' ⟨rfl, x, rfl⟩))
  obtain ⟨V, hV⟩ : ∃ V, (w.alloc (.cells #[.slice A p.length c] 24)).alloc (.cells #[.slice A2 q.length c2] 24) = V := ⟨_, rfl⟩
  have TV : Below w.heap.size w V := by rw [← hV]; exact (by repeat (first | exact Below.refl _ _ | refine below_ov _ _ ?_ (by first | omega | (simp [ov_size] <;> omega)) | refine Below.alloc ?_ (by first | omega | (simp [ov_size] <;> omega)) _ | refine Below.setCell ?_ (by first | omega | (simp [ov_size] <;> omega)) _ | refine Below.drew ?_ | refine below_drewN ?_ _))
  have X0 : V.heap[w.heap.size]? = some (.cells #[.slice A p.length c] 24 (0, 0)) := by rw [← hV]; exact (heap_old_at (by simp)).trans (heap_alloc_new _ _)
  have X1 : V.heap[w.heap.size + 1]? = some (.cells #[.slice A2 q.length c2] 24 (0, 0)) := by rw [← hV]; exact heap_new_at (by simp) rfl
  rw [hV]
  clear hV
  generalize w.heap.size + 1 = b1 at X1 ⊢
  obtain ⟨W0, hW⟩ : ∃ W0, W0 = ov V x := ⟨_, rfl⟩
  rw [← hW]
  have T : Below V.heap.size V W0 := by rw [hW]; exact (by repeat (first | exact Below.refl _ _ | refine below_ov _ _ ?_ (by first | omega | (simp [ov_size] <;> omega)) | refine Below.alloc ?_ (by first | omega | (simp [ov_size] <;> omega)) _ | refine Below.setCell ?_ (by first | omega | (simp [ov_size] <;> omega)) _ | refine Below.drew ?_ | refine below_drewN ?_ _))
  clear hW
  have B0 := box_below (Lib.hid X0) T
  have B1 := box_below (Lib.hid X1) T
  clear X0 X1
  have s0 : w.heap.size ≤ V.heap.size := TV.size
  have S := R.below (TV.trans (T.mono s0))
  have S2 := R2.below (TV.trans (T.mono s0))
  have B0c0 := cell_blk (j := 0) (v := .slice A p.length c) B0.out rfl
  have B0l := (Array.getElem?_eq_some_iff.1 B0.out).1
  have B1c0 := cell_blk (j := 0) (v := .slice A2 q.length c2) B1.out rfl
  have B1l := (Array.getElem?_eq_some_iff.1 B1.out).1
  refine wp_region_rel [.pur [] ?wc0, .rel [] [1] false (IsOw (GReg p)), .pur [] ?wc2, .rel [] [3] false (IsOw (GReg q)), .rel [1, 3] [4] false (IsOw (GTup out ok)), .rel [4] [5] false (IsOw (GTup out ok)), .rel [5] [6] false (IsOw (GReg out)), .pur [5] ?wc7, .rel [] [8] false (IsAl 28 1), .rel [8, 6] [8, 6] true (IsSt 28), .pur [] ?wc10] _ rfl rfl (by kernel_rfl) (by kernel_rfl) ?hstw (fun vs => ?walkw)
  case' walkw =>
    (refine wpRel_pur rfl rfl (fun x => by ((go_wp2); refine relEnd_pur rfl ?_ (by repeat (first | exact Below.refl _ _ | refine below_ov _ _ ?_ (by first | omega | (simp [ov_size] <;> omega)) | refine Below.alloc ?_ (by first | omega | (simp [ov_size] <;> omega)) _ | refine Below.setCell ?_ (by first | omega | (simp [ov_size] <;> omega)) _ | refine Below.drew ?_ | refine below_drewN ?_ _)); simp only [Act.put, List.setIfInBounds_toArray, List.set_cons_succ, List.set_cons_zero]; rfl)) ?_; simp only [Act.put, List.setIfInBounds_toArray, List.set_cons_succ, List.set_cons_zero])
    refine wpRel_own rfl rfl rfl (fun x hh => ?_) ?_
    · go_wp2_with fail
      refine (toRegion_any (S.below (by repeat (first | exact Below.refl _ _ | refine below_ov _ _ ?_ (by first | omega | (simp [ov_size] <;> omega)) | refine Below.alloc ?_ (by first | omega | (simp [ov_size] <;> omega)) _ | refine Below.setCell ?_ (by first | omega | (simp [ov_size] <;> omega)) _ | refine Below.drew ?_ | refine below_drewN ?_ _))) (by omega)).mono ?_
      rintro e w7 ⟨A7, c7, rfl, Q7, hb7⟩
      go_wp2
      refine relEnd_ow rfl rfl ?_ hb7 ⟨A7, c7, rfl, Q7.weak (by rw [ov_size]; omega)⟩
      (simp only [Act.put, List.setIfInBounds_toArray, List.set_cons_succ, List.set_cons_zero] <;> rfl)
    simp only [Act.put, List.setIfInBounds_toArray, List.set_cons_succ, List.set_cons_zero]
    (refine wpRel_pur rfl rfl (fun x => by ((go_wp2); refine relEnd_pur rfl ?_ (by repeat (first | exact Below.refl _ _ | refine below_ov _ _ ?_ (by first | omega | (simp [ov_size] <;> omega)) | refine Below.alloc ?_ (by first | omega | (simp [ov_size] <;> omega)) _ | refine Below.setCell ?_ (by first | omega | (simp [ov_size] <;> omega)) _ | refine Below.drew ?_ | refine below_drewN ?_ _)); simp only [Act.put, List.setIfInBounds_toArray, List.set_cons_succ, List.set_cons_zero]; rfl)) ?_; simp only [Act.put, List.setIfInBounds_toArray, List.set_cons_succ, List.set_cons_zero])
    refine wpRel_own rfl rfl rfl (fun x hh => ?_) ?_
    · go_wp2_with fail
      refine (toRegion_any (S2.below (by repeat (first | exact Below.refl _ _ | refine below_ov _ _ ?_ (by first | omega | (simp [ov_size] <;> omega)) | refine Below.alloc ?_ (by first | omega | (simp [ov_size] <;> omega)) _ | refine Below.setCell ?_ (by first | omega | (simp [ov_size] <;> omega)) _ | refine Below.drew ?_ | refine below_drewN ?_ _))) (by omega)).mono ?_
      rintro e w7 ⟨A7, c7, rfl, Q7, hb7⟩
      go_wp2
      refine relEnd_ow rfl rfl ?_ hb7 ⟨A7, c7, rfl, Q7.weak (by rw [ov_size]; omega)⟩
      (simp only [Act.put, List.setIfInBounds_toArray, List.set_cons_succ, List.set_cons_zero] <;> rfl)
    simp only [Act.put, List.setIfInBounds_toArray, List.set_cons_succ, List.set_cons_zero]
    refine wpRel_own rfl rfl rfl (fun x hh => ?_) ?_
    · obtain ⟨a, d, f, Q⟩ := isOw_at (hh 1 (by simp)) rfl
      obtain ⟨a', d', f', Q'⟩ := isOw_at (hh 3 (by simp)) rfl
      simp only [f, f']
      go_wp2_with fail
      refine (spec_MeetRegions_eq Q.r3 Q'.r3 (by omega) (by omega) HR).mono ?_
      rintro e w7 ⟨A7, c7, rfl, Q7, hb7⟩
      go_wp2
      refine relEnd_ow rfl rfl ?_ hb7 ⟨A7, c7, rfl, Q7.weak (by rw [ov_size]; omega)⟩
      (simp only [Act.put, List.setIfInBounds_toArray, List.set_cons_succ, List.set_cons_zero] <;> rfl)
    simp only [Act.put, List.setIfInBounds_toArray, List.set_cons_succ, List.set_cons_zero]
    refine wpRel_own rfl rfl rfl (fun x hh => ?_) ?_
    · obtain ⟨a, d, f, Q⟩ := isOw_at (hh 4 (by simp)) rfl
      simp only [f]
      go_wp2
      refine relEnd_ow rfl rfl ?_ (Below.refl _ _) ⟨a, d, rfl, Q⟩
      (simp only [Act.put, List.setIfInBounds_toArray, List.set_cons_succ, List.set_cons_zero] <;> rfl)
    simp only [Act.put, List.setIfInBounds_toArray, List.set_cons_succ, List.set_cons_zero]
    refine wpRel_own rfl rfl rfl (fun x hh => ?_) ?_
    · obtain ⟨a, d, f, Q⟩ := isOw_at (hh 5 (by simp)) rfl
      simp only [f]
      go_wp2
      refine relEnd_ow rfl rfl ?_ (Below.refl _ _) ⟨a, d, rfl, Q⟩
      (simp only [Act.put, List.setIfInBounds_toArray, List.set_cons_succ, List.set_cons_zero] <;> rfl)
    simp only [Act.put, List.setIfInBounds_toArray, List.set_cons_succ, List.set_cons_zero]
    (refine wpRel_purn rfl rfl (fun x hh => by ((obtain ⟨a, d, f, Q⟩ := isOw_at (hh 5 (by simp)) rfl; simp only [f]); (go_wp2); refine relEnd_pur rfl ?_ (by repeat (first | exact Below.refl _ _ | refine below_ov _ _ ?_ (by first | omega | (simp [ov_size] <;> omega)) | refine Below.alloc ?_ (by first | omega | (simp [ov_size] <;> omega)) _ | refine Below.setCell ?_ (by first | omega | (simp [ov_size] <;> omega)) _ | refine Below.drew ?_ | refine below_drewN ?_ _)); simp only [Act.put, List.setIfInBounds_toArray, List.set_cons_succ, List.set_cons_zero]; rfl)) ?_; simp only [Act.put, List.setIfInBounds_toArray, List.set_cons_succ, List.set_cons_zero])
    refine wpRel_al #[.slice none 0 0] rfl rfl rfl rfl rfl rfl (fun w => by simp [go_sem]) ?_
    simp only [Act.put, List.setIfInBounds_toArray, List.set_cons_succ, List.set_cons_zero]
    refine wpRel_so rfl rfl rfl rfl rfl rfl (by decide) (by decide) rfl rfl (by kernel_rfl) (fun w hw => by obtain ⟨a, d, f, _⟩ := hw; rw [f]; exact reg_cells _ _ _) (by repeat (first | exact all_nil | refine all_cons trivial ?_ | refine all_cons isAl_steady ?_ | refine all_cons (isOw_steady (by assumption)) ?_)) ?_
    (refine wpRel_pur rfl rfl (fun x => by ((go_wp2); refine relEnd_pur rfl ?_ (by repeat (first | exact Below.refl _ _ | refine below_ov _ _ ?_ (by first | omega | (simp [ov_size] <;> omega)) | refine Below.alloc ?_ (by first | omega | (simp [ov_size] <;> omega)) _ | refine Below.setCell ?_ (by first | omega | (simp [ov_size] <;> omega)) _ | refine Below.drew ?_ | refine below_drewN ?_ _)); simp only [Act.put, List.setIfInBounds_toArray, List.set_cons_succ, List.set_cons_zero]; rfl)) ?_; simp only [Act.put, List.setIfInBounds_toArray, List.set_cons_succ, List.set_cons_zero])
    refine wpRelE_nilB0 (fun W1 K hh => ?_)
    obtain ⟨bw, e, hb, hx⟩ := isSt_own (hh 9) rfl rfl rfl
    obtain ⟨aw, dw, f, Xw⟩ := isOw_at (hh 6) rfl
    rw [f] at hx
    simp only [e]
    have Bw := Lib.hid hx
    clear hh e f hx hb
    clear B0c0 B1c0 B0l B1l
    replace Xw := Xw.weak (B' := V.heap.size) T.size
    replace T := T.trans (K.mono T.size)
    replace B0 := box_below B0 K
    replace B1 := box_below B1 K
    clear K S S2
    have S := R.below (TV.trans (T.mono s0))
    have S2 := R2.below (TV.trans (T.mono s0))
    have B0c0 := cell_blk (j := 0) (v := .slice A p.length c) B0.out rfl
    have B0l := (Array.getElem?_eq_some_iff.1 B0.out).1
    have B1c0 := cell_blk (j := 0) (v := .slice A2 q.length c2) B1.out rfl
    have B1l := (Array.getElem?_eq_some_iff.1 B1.out).1
    have Bwc0 := cell_blk (j := 0) (v := .slice aw out.length dw) Bw.out rfl
    have Bwl := (Array.getElem?_eq_some_iff.1 Bw.out).1
    go_wp2_with fail
    refine (toRegion_any (S.below (by repeat (first | exact Below.refl _ _ | refine below_ov _ _ ?_ (by first | omega | (simp [ov_size] <;> omega)) | refine Below.alloc ?_ (by first | omega | (simp [ov_size] <;> omega)) _ | refine Below.setCell ?_ (by first | omega | (simp [ov_size] <;> omega)) _ | refine Below.drew ?_ | refine below_drewN ?_ _))) (by omega)).mono ?_
    rintro e W2 ⟨ax, dx, rfl, Xx, hb⟩
    have apXwx := apart_new Xw Xx (by simp)
    have K : Below W1.heap.size W1 W2 := Below.trans (by repeat (first | exact Below.refl _ _ | refine below_ov _ _ ?_ (by first | omega | (simp [ov_size] <;> omega)) | refine Below.alloc ?_ (by first | omega | (simp [ov_size] <;> omega)) _ | refine Below.setCell ?_ (by first | omega | (simp [ov_size] <;> omega)) _ | refine Below.drew ?_ | refine below_drewN ?_ _)) (hb.mono (by simp))
    replace Xx := Xx.weak (B' := V.heap.size) (by have := T.size; simp; omega)
    clear hb
    clear B0c0 B1c0 Bwc0 B0l B1l Bwl
    replace T := T.trans (K.mono T.size)
    replace B0 := box_below B0 K
    replace B1 := box_below B1 K
    replace Bw := box_below Bw K
    replace Xw := Xw.below K
    clear K S S2
    have S := R.below (TV.trans (T.mono s0))
    have S2 := R2.below (TV.trans (T.mono s0))
    have B0c0 := cell_blk (j := 0) (v := .slice A p.length c) B0.out rfl
    have B0l := (Array.getElem?_eq_some_iff.1 B0.out).1
    have B1c0 := cell_blk (j := 0) (v := .slice A2 q.length c2) B1.out rfl
    have B1l := (Array.getElem?_eq_some_iff.1 B1.out).1
    have Bwc0 := cell_blk (j := 0) (v := .slice aw out.length dw) Bw.out rfl
    have Bwl := (Array.getElem?_eq_some_iff.1 Bw.out).1
    go_wp2_with fail
    obtain ⟨bx, hbx⟩ : ∃ b, b = W2.heap.size := ⟨_, rfl⟩
    rw [← hbx]
    obtain ⟨W3, hW⟩ : ∃ W, W = W2.alloc (.cells #[.slice ax p.length dx] 28) := ⟨_, rfl⟩
    rw [← hW]
    have K : Below W2.heap.size W2 W3 := by rw [hW]; exact (by repeat (first | exact Below.refl _ _ | refine below_ov _ _ ?_ (by first | omega | (simp [ov_size] <;> omega)) | refine Below.alloc ?_ (by first | omega | (simp [ov_size] <;> omega)) _ | refine Below.setCell ?_ (by first | omega | (simp [ov_size] <;> omega)) _ | refine Below.drew ?_ | refine below_drewN ?_ _))
    have Bx := Lib.hid (show W3.heap[bx]? = some (.cells #[.slice ax p.length dx] 28 (0, 0)) by rw [hW, hbx]; exact heap_alloc_new _ _)
    clear hW hbx
    replace Xx := Xx.below K
    clear B0c0 B1c0 Bwc0 B0l B1l Bwl
    replace T := T.trans (K.mono T.size)
    replace B0 := box_below B0 K
    replace B1 := box_below B1 K
    replace Bw := box_below Bw K
    replace Xw := Xw.below K
    clear K S S2
    have S := R.below (TV.trans (T.mono s0))
    have S2 := R2.below (TV.trans (T.mono s0))
    have B0c0 := cell_blk (j := 0) (v := .slice A p.length c) B0.out rfl
    have B0l := (Array.getElem?_eq_some_iff.1 B0.out).1
    have B1c0 := cell_blk (j := 0) (v := .slice A2 q.length c2) B1.out rfl
    have B1l := (Array.getElem?_eq_some_iff.1 B1.out).1
    have Bwc0 := cell_blk (j := 0) (v := .slice aw out.length dw) Bw.out rfl
    have Bwl := (Array.getElem?_eq_some_iff.1 Bw.out).1
    have Bxc0 := cell_blk (j := 0) (v := .slice ax p.length dx) Bx.out rfl
    have Bxl := (Array.getElem?_eq_some_iff.1 Bx.out).1
    refine (toRegion_any (S2.below (by repeat (first | exact Below.refl _ _ | refine below_ov _ _ ?_ (by first | omega | (simp [ov_size] <;> omega)) | refine Below.alloc ?_ (by first | omega | (simp [ov_size] <;> omega)) _ | refine Below.setCell ?_ (by first | omega | (simp [ov_size] <;> omega)) _ | refine Below.drew ?_ | refine below_drewN ?_ _))) (by omega)).mono ?_
    rintro e W4 ⟨av, dv, rfl, Xv, hb⟩
    have apXwv := apart_new Xw Xv (by simp)
    have apXxv := apart_new Xx Xv (by simp)
    have K : Below W3.heap.size W3 W4 := Below.trans (by repeat (first | exact Below.refl _ _ | refine below_ov _ _ ?_ (by first | omega | (simp [ov_size] <;> omega)) | refine Below.alloc ?_ (by first | omega | (simp [ov_size] <;> omega)) _ | refine Below.setCell ?_ (by first | omega | (simp [ov_size] <;> omega)) _ | refine Below.drew ?_ | refine below_drewN ?_ _)) (hb.mono (by simp))
    replace Xv := Xv.weak (B' := V.heap.size) (by have := T.size; simp; omega)
    clear hb
    clear B0c0 B1c0 Bwc0 Bxc0 B0l B1l Bwl Bxl
    replace T := T.trans (K.mono T.size)
    replace B0 := box_below B0 K
    replace B1 := box_below B1 K
    replace Bw := box_below Bw K
    replace Bx := box_below Bx K
    replace Xw := Xw.below K
    replace Xx := Xx.below K
    clear K S S2
    have S := R.below (TV.trans (T.mono s0))
    have S2 := R2.below (TV.trans (T.mono s0))
    have B0c0 := cell_blk (j := 0) (v := .slice A p.length c) B0.out rfl
    have B0l := (Array.getElem?_eq_some_iff.1 B0.out).1
    have B1c0 := cell_blk (j := 0) (v := .slice A2 q.length c2) B1.out rfl
    have B1l := (Array.getElem?_eq_some_iff.1 B1.out).1
    have Bwc0 := cell_blk (j := 0) (v := .slice aw out.length dw) Bw.out rfl
    have Bwl := (Array.getElem?_eq_some_iff.1 Bw.out).1
    have Bxc0 := cell_blk (j := 0) (v := .slice ax p.length dx) Bx.out rfl
    have Bxl := (Array.getElem?_eq_some_iff.1 Bx.out).1
    go_wp2_with fail
    obtain ⟨bv, hbx⟩ : ∃ b, b = W4.heap.size := ⟨_, rfl⟩
    rw [← hbx]
    obtain ⟨W5, hW⟩ : ∃ W, W = W4.alloc (.cells #[.slice av q.length dv] 28) := ⟨_, rfl⟩
    rw [← hW]
    have K : Below W4.heap.size W4 W5 := by rw [hW]; exact (by repeat (first | exact Below.refl _ _ | refine below_ov _ _ ?_ (by first | omega | (simp [ov_size] <;> omega)) | refine Below.alloc ?_ (by first | omega | (simp [ov_size] <;> omega)) _ | refine Below.setCell ?_ (by first | omega | (simp [ov_size] <;> omega)) _ | refine Below.drew ?_ | refine below_drewN ?_ _))
    have Bv := Lib.hid (show W5.heap[bv]? = some (.cells #[.slice av q.length dv] 28 (0, 0)) by rw [hW, hbx]; exact heap_alloc_new _ _)
    clear hW hbx
    replace Xv := Xv.below K
    clear B0c0 B1c0 Bwc0 Bxc0 B0l B1l Bwl Bxl
    replace T := T.trans (K.mono T.size)
    replace B0 := box_below B0 K
    replace B1 := box_below B1 K
    replace Bw := box_below Bw K
    replace Bx := box_below Bx K
    replace Xw := Xw.below K
    replace Xx := Xx.below K
    clear K S S2
    have S := R.below (TV.trans (T.mono s0))
    have S2 := R2.below (TV.trans (T.mono s0))
    have B0c0 := cell_blk (j := 0) (v := .slice A p.length c) B0.out rfl
    have B0l := (Array.getElem?_eq_some_iff.1 B0.out).1
    have B1c0 := cell_blk (j := 0) (v := .slice A2 q.length c2) B1.out rfl
    have B1l := (Array.getElem?_eq_some_iff.1 B1.out).1
    have Bwc0 := cell_blk (j := 0) (v := .slice aw out.length dw) Bw.out rfl
    have Bwl := (Array.getElem?_eq_some_iff.1 Bw.out).1
    have Bxc0 := cell_blk (j := 0) (v := .slice ax p.length dx) Bx.out rfl
    have Bxl := (Array.getElem?_eq_some_iff.1 Bx.out).1
    have Bvc0 := cell_blk (j := 0) (v := .slice av q.length dv) Bv.out rfl
    have Bvl := (Array.getElem?_eq_some_iff.1 Bv.out).1
    refine (impl_MeetRegions_eq ((Xx.below (by repeat (first | exact Below.refl _ _ | refine below_ov _ _ ?_ (by first | omega | (simp [ov_size] <;> omega)) | refine Below.alloc ?_ (by first | omega | (simp [ov_size] <;> omega)) _ | refine Below.setCell ?_ (by first | omega | (simp [ov_size] <;> omega)) _ | refine Below.drew ?_ | refine below_drewN ?_ _))).r3) ((Xv.below (by repeat (first | exact Below.refl _ _ | refine below_ov _ _ ?_ (by first | omega | (simp [ov_size] <;> omega)) | refine Below.alloc ?_ (by first | omega | (simp [ov_size] <;> omega)) _ | refine Below.setCell ?_ (by first | omega | (simp [ov_size] <;> omega)) _ | refine Below.drew ?_ | refine below_drewN ?_ _))).r3) (by omega) (by omega) HR).mono ?_
    rintro e W6 ⟨ag, dg, rfl, Xg, hb⟩
    have apXwg := apart_new Xw Xg (by simp)
    have apXxg := apart_new Xx Xg (by simp)
    have apXvg := apart_new Xv Xg (by simp)
    have K : Below W5.heap.size W5 W6 := Below.trans (by repeat (first | exact Below.refl _ _ | refine below_ov _ _ ?_ (by first | omega | (simp [ov_size] <;> omega)) | refine Below.alloc ?_ (by first | omega | (simp [ov_size] <;> omega)) _ | refine Below.setCell ?_ (by first | omega | (simp [ov_size] <;> omega)) _ | refine Below.drew ?_ | refine below_drewN ?_ _)) (hb.mono (by simp))
    replace Xg := Xg.weak (B' := V.heap.size) (by have := T.size; simp; omega)
    clear hb
    clear B0c0 B1c0 Bwc0 Bxc0 Bvc0 B0l B1l Bwl Bxl Bvl
    replace T := T.trans (K.mono T.size)
    replace B0 := box_below B0 K
    replace B1 := box_below B1 K
    replace Bw := box_below Bw K
    replace Bx := box_below Bx K
    replace Bv := box_below Bv K
    replace Xw := Xw.below K
    replace Xx := Xx.below K
    replace Xv := Xv.below K
    clear K S S2
    have S := R.below (TV.trans (T.mono s0))
    have S2 := R2.below (TV.trans (T.mono s0))
    have B0c0 := cell_blk (j := 0) (v := .slice A p.length c) B0.out rfl
    have B0l := (Array.getElem?_eq_some_iff.1 B0.out).1
    have B1c0 := cell_blk (j := 0) (v := .slice A2 q.length c2) B1.out rfl
    have B1l := (Array.getElem?_eq_some_iff.1 B1.out).1
    have Bwc0 := cell_blk (j := 0) (v := .slice aw out.length dw) Bw.out rfl
    have Bwl := (Array.getElem?_eq_some_iff.1 Bw.out).1
    have Bxc0 := cell_blk (j := 0) (v := .slice ax p.length dx) Bx.out rfl
    have Bxl := (Array.getElem?_eq_some_iff.1 Bx.out).1
    have Bvc0 := cell_blk (j := 0) (v := .slice av q.length dv) Bv.out rfl
    have Bvl := (Array.getElem?_eq_some_iff.1 Bv.out).1
    go_wp2_with fail
    obtain ⟨bg, hbx⟩ : ∃ b, b = W6.heap.size := ⟨_, rfl⟩
    rw [← hbx]
    obtain ⟨W7, hW⟩ : ∃ W, W = W6.alloc (.cells #[.slice ag out.length dg] 28) := ⟨_, rfl⟩
    rw [← hW]
    have K : Below W6.heap.size W6 W7 := by rw [hW]; exact (by repeat (first | exact Below.refl _ _ | refine below_ov _ _ ?_ (by first | omega | (simp [ov_size] <;> omega)) | refine Below.alloc ?_ (by first | omega | (simp [ov_size] <;> omega)) _ | refine Below.setCell ?_ (by first | omega | (simp [ov_size] <;> omega)) _ | refine Below.drew ?_ | refine below_drewN ?_ _))
    have Bg := Lib.hid (show W7.heap[bg]? = some (.cells #[.slice ag out.length dg] 28 (0, 0)) by rw [hW, hbx]; exact heap_alloc_new _ _)
    clear hW hbx
    replace Xg := Xg.below K
    clear B0c0 B1c0 Bwc0 Bxc0 Bvc0 B0l B1l Bwl Bxl Bvl
    replace T := T.trans (K.mono T.size)
    replace B0 := box_below B0 K
    replace B1 := box_below B1 K
    replace Bw := box_below Bw K
    replace Bx := box_below Bx K
    replace Bv := box_below Bv K
    replace Xw := Xw.below K
    replace Xx := Xx.below K
    replace Xv := Xv.below K
    clear K S S2
    have S := R.below (TV.trans (T.mono s0))
    have S2 := R2.below (TV.trans (T.mono s0))
    have B0c0 := cell_blk (j := 0) (v := .slice A p.length c) B0.out rfl
    have B0l := (Array.getElem?_eq_some_iff.1 B0.out).1
    have B1c0 := cell_blk (j := 0) (v := .slice A2 q.length c2) B1.out rfl
    have B1l := (Array.getElem?_eq_some_iff.1 B1.out).1
    have Bwc0 := cell_blk (j := 0) (v := .slice aw out.length dw) Bw.out rfl
    have Bwl := (Array.getElem?_eq_some_iff.1 Bw.out).1
    have Bxc0 := cell_blk (j := 0) (v := .slice ax p.length dx) Bx.out rfl
    have Bxl := (Array.getElem?_eq_some_iff.1 Bx.out).1
    have Bvc0 := cell_blk (j := 0) (v := .slice av q.length dv) Bv.out rfl
    have Bvl := (Array.getElem?_eq_some_iff.1 Bv.out).1
    have Bgc0 := cell_blk (j := 0) (v := .slice ag out.length dg) Bg.out rfl
    have Bgl := (Array.getElem?_eq_some_iff.1 Bg.out).1
    refine (calls_ov (eqRegion_same (by first | exact ((Xg.below (by repeat (first | exact Below.refl _ _ | refine below_ov _ _ ?_ (by first | omega | (simp [ov_size] <;> omega)) | refine Below.alloc ?_ (by first | omega | (simp [ov_size] <;> omega)) _ | refine Below.setCell ?_ (by first | omega | (simp [ov_size] <;> omega)) _ | refine Below.drew ?_ | refine below_drewN ?_ _))).r3) | exact Xg.r3) (by first | exact ((Xw.below (by repeat (first | exact Below.refl _ _ | refine below_ov _ _ ?_ (by first | omega | (simp [ov_size] <;> omega)) | refine Below.alloc ?_ (by first | omega | (simp [ov_size] <;> omega)) _ | refine Below.setCell ?_ (by first | omega | (simp [ov_size] <;> omega)) _ | refine Below.drew ?_ | refine below_drewN ?_ _))).r3) | exact Xw.r3) (by omega))).mono ?_
    rintro e w' ⟨rfl, x, rfl⟩
    go_wp2_with fail
    clear B0c0 B1c0 Bwc0 Bxc0 Bvc0 Bgc0 B0l B1l Bwl Bxl Bvl Bgl
    obtain ⟨W8, hW⟩ : ∃ W8, W8 = ov W7 x := ⟨_, rfl⟩
    rw [← hW]
    have K : Below W7.heap.size W7 W8 := by rw [hW]; exact (by repeat (first | exact Below.refl _ _ | refine below_ov _ _ ?_ (by first | omega | (simp [ov_size] <;> omega)) | refine Below.alloc ?_ (by first | omega | (simp [ov_size] <;> omega)) _ | refine Below.setCell ?_ (by first | omega | (simp [ov_size] <;> omega)) _ | refine Below.drew ?_ | refine below_drewN ?_ _))
    clear hW
    replace T := T.trans (K.mono T.size)
    replace B0 := box_below B0 K
    replace B1 := box_below B1 K
    replace Bw := box_below Bw K
    replace Bx := box_below Bx K
    replace Bv := box_below Bv K
    replace Bg := box_below Bg K
    replace Xw := Xw.below K
    replace Xx := Xx.below K
    replace Xv := Xv.below K
    replace Xg := Xg.below K
    clear K S S2
    have S := R.below (TV.trans (T.mono s0))
    have S2 := R2.below (TV.trans (T.mono s0))
    have B0c0 := cell_blk (j := 0) (v := .slice A p.length c) B0.out rfl
    have B0l := (Array.getElem?_eq_some_iff.1 B0.out).1
    have B1c0 := cell_blk (j := 0) (v := .slice A2 q.length c2) B1.out rfl
    have B1l := (Array.getElem?_eq_some_iff.1 B1.out).1
    have Bwc0 := cell_blk (j := 0) (v := .slice aw out.length dw) Bw.out rfl
    have Bwl := (Array.getElem?_eq_some_iff.1 Bw.out).1
    have Bxc0 := cell_blk (j := 0) (v := .slice ax p.length dx) Bx.out rfl
    have Bxl := (Array.getElem?_eq_some_iff.1 Bx.out).1
    have Bvc0 := cell_blk (j := 0) (v := .slice av q.length dv) Bv.out rfl
    have Bvl := (Array.getElem?_eq_some_iff.1 Bv.out).1
    have Bgc0 := cell_blk (j := 0) (v := .slice ag out.length dg) Bg.out rfl
    have Bgl := (Array.getElem?_eq_some_iff.1 Bg.out).1
    refine wp_region_rel [.pur [] ?e0, .pur [] ?e1, .rel [] [2] false (IsOw (GReg p)), .pur [2] ?e3, .pur [] ?e4] _ rfl rfl (by kernel_rfl) (by kernel_rfl) ?hste (fun vs => ?walke)
    case' walke =>
      (refine wpRel_pur rfl rfl (fun x => by ((go_wp2); refine relEnd_pur rfl ?_ (by repeat (first | exact Below.refl _ _ | refine below_ov _ _ ?_ (by first | omega | (simp [ov_size] <;> omega)) | refine Below.alloc ?_ (by first | omega | (simp [ov_size] <;> omega)) _ | refine Below.setCell ?_ (by first | omega | (simp [ov_size] <;> omega)) _ | refine Below.drew ?_ | refine below_drewN ?_ _)); simp only [Act.put, List.setIfInBounds_toArray, List.set_cons_succ, List.set_cons_zero]; rfl)) ?_; simp only [Act.put, List.setIfInBounds_toArray, List.set_cons_succ, List.set_cons_zero])
      (refine wpRel_pur rfl rfl (fun x => by ((go_wp2); refine relEnd_pur rfl ?_ (by repeat (first | exact Below.refl _ _ | refine below_ov _ _ ?_ (by first | omega | (simp [ov_size] <;> omega)) | refine Below.alloc ?_ (by first | omega | (simp [ov_size] <;> omega)) _ | refine Below.setCell ?_ (by first | omega | (simp [ov_size] <;> omega)) _ | refine Below.drew ?_ | refine below_drewN ?_ _)); simp only [Act.put, List.setIfInBounds_toArray, List.set_cons_succ, List.set_cons_zero]; rfl)) ?_; simp only [Act.put, List.setIfInBounds_toArray, List.set_cons_succ, List.set_cons_zero])
      refine wpRel_own rfl rfl rfl (fun x hh => ?_) ?_
      · go_wp2_with fail
        refine (toRegion_any (S.below (by repeat (first | exact Below.refl _ _ | refine below_ov _ _ ?_ (by first | omega | (simp [ov_size] <;> omega)) | refine Below.alloc ?_ (by first | omega | (simp [ov_size] <;> omega)) _ | refine Below.setCell ?_ (by first | omega | (simp [ov_size] <;> omega)) _ | refine Below.drew ?_ | refine below_drewN ?_ _))) (by omega)).mono ?_
        rintro e w7 ⟨A7, c7, rfl, Q7, hb7⟩
        go_wp2
        refine relEnd_ow rfl rfl ?_ hb7 ⟨A7, c7, rfl, Q7.weak (by rw [ov_size]; omega)⟩
        (simp only [Act.put, List.setIfInBounds_toArray, List.set_cons_succ, List.set_cons_zero] <;> rfl)
      simp only [Act.put, List.setIfInBounds_toArray, List.set_cons_succ, List.set_cons_zero]
      (refine wpRel_purn rfl rfl (fun x hh => by ((obtain ⟨a, d, f, Q⟩ := isOw_at (hh 2 (by simp)) rfl; simp only [f]); (go_wp2_with (first | (go_at_call 19; refine (calls_ov (eqRegion_same ((Xx.below (by repeat (first | exact Below.refl _ _ | refine below_ov _ _ ?_ (by first | omega | (simp [ov_size] <;> omega)) | refine Below.alloc ?_ (by first | omega | (simp [ov_size] <;> omega)) _ | refine Below.setCell ?_ (by first | omega | (simp [ov_size] <;> omega)) _ | refine Below.drew ?_ | refine below_drewN ?_ _))).r3) Q.r3 (by omega))).mono ?_; rintro e w' ⟨rfl, x, rfl⟩))); refine relEnd_pur rfl ?_ (by repeat (first | exact Below.refl _ _ | refine below_ov _ _ ?_ (by first | omega | (simp [ov_size] <;> omega)) | refine Below.alloc ?_ (by first | omega | (simp [ov_size] <;> omega)) _ | refine Below.setCell ?_ (by first | omega | (simp [ov_size] <;> omega)) _ | refine Below.drew ?_ | refine below_drewN ?_ _)); simp only [Act.put, List.setIfInBounds_toArray, List.set_cons_succ, List.set_cons_zero]; rfl)) ?_; simp only [Act.put, List.setIfInBounds_toArray, List.set_cons_succ, List.set_cons_zero])
      (refine wpRel_pur rfl rfl (fun x => by ((go_wp2); refine relEnd_pur rfl ?_ (by repeat (first | exact Below.refl _ _ | refine below_ov _ _ ?_ (by first | omega | (simp [ov_size] <;> omega)) | refine Below.alloc ?_ (by first | omega | (simp [ov_size] <;> omega)) _ | refine Below.setCell ?_ (by first | omega | (simp [ov_size] <;> omega)) _ | refine Below.drew ?_ | refine below_drewN ?_ _)); simp only [Act.put, List.setIfInBounds_toArray, List.set_cons_succ, List.set_cons_zero]; rfl)) ?_; simp only [Act.put, List.setIfInBounds_toArray, List.set_cons_succ, List.set_cons_zero])
      refine wpRelE_nilB0 (fun W9 K hh => ?_)
      clear hh
      clear B0c0 B1c0 Bwc0 Bxc0 Bvc0 Bgc0 B0l B1l Bwl Bxl Bvl Bgl
      replace T := T.trans (K.mono T.size)
      replace B0 := box_below B0 K
      replace B1 := box_below B1 K
      replace Bw := box_below Bw K
      replace Bx := box_below Bx K
      replace Bv := box_below Bv K
      replace Bg := box_below Bg K
      replace Xw := Xw.below K
      replace Xx := Xx.below K
      replace Xv := Xv.below K
      replace Xg := Xg.below K
      clear K S S2
      have S := R.below (TV.trans (T.mono s0))
      have S2 := R2.below (TV.trans (T.mono s0))
      have B0c0 := cell_blk (j := 0) (v := .slice A p.length c) B0.out rfl
      have B0l := (Array.getElem?_eq_some_iff.1 B0.out).1
      have B1c0 := cell_blk (j := 0) (v := .slice A2 q.length c2) B1.out rfl
      have B1l := (Array.getElem?_eq_some_iff.1 B1.out).1
      have Bwc0 := cell_blk (j := 0) (v := .slice aw out.length dw) Bw.out rfl
      have Bwl := (Array.getElem?_eq_some_iff.1 Bw.out).1
      have Bxc0 := cell_blk (j := 0) (v := .slice ax p.length dx) Bx.out rfl
      have Bxl := (Array.getElem?_eq_some_iff.1 Bx.out).1
      have Bvc0 := cell_blk (j := 0) (v := .slice av q.length dv) Bv.out rfl
      have Bvl := (Array.getElem?_eq_some_iff.1 Bv.out).1
      have Bgc0 := cell_blk (j := 0) (v := .slice ag out.length dg) Bg.out rfl
      have Bgl := (Array.getElem?_eq_some_iff.1 Bg.out).1
      go_wp2_with fail
      clear B0c0 B1c0 Bwc0 Bxc0 Bvc0 Bgc0 B0l B1l Bwl Bxl Bvl Bgl
      have B0c0 := cell_blk (j := 0) (v := .slice A p.length c) B0.out rfl
      have B0l := (Array.getElem?_eq_some_iff.1 B0.out).1
      have B1c0 := cell_blk (j := 0) (v := .slice A2 q.length c2) B1.out rfl
      have B1l := (Array.getElem?_eq_some_iff.1 B1.out).1
      have Bwc0 := cell_blk (j := 0) (v := .slice aw out.length dw) Bw.out rfl
      have Bwl := (Array.getElem?_eq_some_iff.1 Bw.out).1
      have Bxc0 := cell_blk (j := 0) (v := .slice ax p.length dx) Bx.out rfl
      have Bxl := (Array.getElem?_eq_some_iff.1 Bx.out).1
      have Bvc0 := cell_blk (j := 0) (v := .slice av q.length dv) Bv.out rfl
      have Bvl := (Array.getElem?_eq_some_iff.1 Bv.out).1
      have Bgc0 := cell_blk (j := 0) (v := .slice ag out.length dg) Bg.out rfl
      have Bgl := (Array.getElem?_eq_some_iff.1 Bg.out).1
      refine wp_region_rel [.pur [] ?f0, .pur [] ?f1, .rel [] [2] false (IsOw (GReg q)), .pur [2] ?f3, .pur [] ?f4] _ rfl rfl (by kernel_rfl) (by kernel_rfl) ?hstf (fun vs => ?walkf)
      case' walkf =>
        (refine wpRel_pur rfl rfl (fun x => by ((go_wp2); refine relEnd_pur rfl ?_ (by repeat (first | exact Below.refl _ _ | refine below_ov _ _ ?_ (by first | omega | (simp [ov_size] <;> omega)) | refine Below.alloc ?_ (by first | omega | (simp [ov_size] <;> omega)) _ | refine Below.setCell ?_ (by first | omega | (simp [ov_size] <;> omega)) _ | refine Below.drew ?_ | refine below_drewN ?_ _)); simp only [Act.put, List.setIfInBounds_toArray, List.set_cons_succ, List.set_cons_zero]; rfl)) ?_; simp only [Act.put, List.setIfInBounds_toArray, List.set_cons_succ, List.set_cons_zero])
        (refine wpRel_pur rfl rfl (fun x => by ((go_wp2); refine relEnd_pur rfl ?_ (by repeat (first | exact Below.refl _ _ | refine below_ov _ _ ?_ (by first | omega | (simp [ov_size] <;> omega)) | refine Below.alloc ?_ (by first | omega | (simp [ov_size] <;> omega)) _ | refine Below.setCell ?_ (by first | omega | (simp [ov_size] <;> omega)) _ | refine Below.drew ?_ | refine below_drewN ?_ _)); simp only [Act.put, List.setIfInBounds_toArray, List.set_cons_succ, List.set_cons_zero]; rfl)) ?_; simp only [Act.put, List.setIfInBounds_toArray, List.set_cons_succ, List.set_cons_zero])
        refine wpRel_own rfl rfl rfl (fun x hh => ?_) ?_
        · go_wp2_with fail
          refine (toRegion_any (S2.below (by repeat (first | exact Below.refl _ _ | refine below_ov _ _ ?_ (by first | omega | (simp [ov_size] <;> omega)) | refine Below.alloc ?_ (by first | omega | (simp [ov_size] <;> omega)) _ | refine Below.setCell ?_ (by first | omega | (simp [ov_size] <;> omega)) _ | refine Below.drew ?_ | refine below_drewN ?_ _))) (by omega)).mono ?_
          rintro e w7 ⟨A7, c7, rfl, Q7, hb7⟩
          go_wp2
          refine relEnd_ow rfl rfl ?_ hb7 ⟨A7, c7, rfl, Q7.weak (by rw [ov_size]; omega)⟩
          (simp only [Act.put, List.setIfInBounds_toArray, List.set_cons_succ, List.set_cons_zero] <;> rfl)
        simp only [Act.put, List.setIfInBounds_toArray, List.set_cons_succ, List.set_cons_zero]
        (refine wpRel_purn rfl rfl (fun x hh => by ((obtain ⟨a, d, f, Q⟩ := isOw_at (hh 2 (by simp)) rfl; simp only [f]); (go_wp2_with (first | (go_at_call 19; refine (calls_ov (eqRegion_same ((Xv.below (by repeat (first | exact Below.refl _ _ | refine below_ov _ _ ?_ (by first | omega | (simp [ov_size] <;> omega)) | refine Below.alloc ?_ (by first | omega | (simp [ov_size] <;> omega)) _ | refine Below.setCell ?_ (by first | omega | (simp [ov_size] <;> omega)) _ | refine Below.drew ?_ | refine below_drewN ?_ _))).r3) Q.r3 (by omega))).mono ?_; rintro e w' ⟨rfl, x, rfl⟩))); refine relEnd_pur rfl ?_ (by repeat (first | exact Below.refl _ _ | refine below_ov _ _ ?_ (by first | omega | (simp [ov_size] <;> omega)) | refine Below.alloc ?_ (by first | omega | (simp [ov_size] <;> omega)) _ | refine Below.setCell ?_ (by first | omega | (simp [ov_size] <;> omega)) _ | refine Below.drew ?_ | refine below_drewN ?_ _)); simp only [Act.put, List.setIfInBounds_toArray, List.set_cons_succ, List.set_cons_zero]; rfl)) ?_; simp only [Act.put, List.setIfInBounds_toArray, List.set_cons_succ, List.set_cons_zero])
        (refine wpRel_pur rfl rfl (fun x => by ((go_wp2); refine relEnd_pur rfl ?_ (by repeat (first | exact Below.refl _ _ | refine below_ov _ _ ?_ (by first | omega | (simp [ov_size] <;> omega)) | refine Below.alloc ?_ (by first | omega | (simp [ov_size] <;> omega)) _ | refine Below.setCell ?_ (by first | omega | (simp [ov_size] <;> omega)) _ | refine Below.drew ?_ | refine below_drewN ?_ _)); simp only [Act.put, List.setIfInBounds_toArray, List.set_cons_succ, List.set_cons_zero]; rfl)) ?_; simp only [Act.put, List.setIfInBounds_toArray, List.set_cons_succ, List.set_cons_zero])
        refine wpRelE_nilB0 (fun W10 K hh => ?_)
        clear hh
        clear B0c0 B1c0 Bwc0 Bxc0 Bvc0 Bgc0 B0l B1l Bwl Bxl Bvl Bgl
        replace T := T.trans (K.mono T.size)
        replace B0 := box_below B0 K
        replace B1 := box_below B1 K
        replace Bw := box_below Bw K
        replace Bx := box_below Bx K
        replace Bv := box_below Bv K
        replace Bg := box_below Bg K
        replace Xw := Xw.below K
        replace Xx := Xx.below K
        replace Xv := Xv.below K
        replace Xg := Xg.below K
        clear K S S2
        have S := R.below (TV.trans (T.mono s0))
        have S2 := R2.below (TV.trans (T.mono s0))
        have B0c0 := cell_blk (j := 0) (v := .slice A p.length c) B0.out rfl
        have B0l := (Array.getElem?_eq_some_iff.1 B0.out).1
        have B1c0 := cell_blk (j := 0) (v := .slice A2 q.length c2) B1.out rfl
        have B1l := (Array.getElem?_eq_some_iff.1 B1.out).1
        have Bwc0 := cell_blk (j := 0) (v := .slice aw out.length dw) Bw.out rfl
        have Bwl := (Array.getElem?_eq_some_iff.1 Bw.out).1
        have Bxc0 := cell_blk (j := 0) (v := .slice ax p.length dx) Bx.out rfl
        have Bxl := (Array.getElem?_eq_some_iff.1 Bx.out).1
        have Bvc0 := cell_blk (j := 0) (v := .slice av q.length dv) Bv.out rfl
        have Bvl := (Array.getElem?_eq_some_iff.1 Bv.out).1
        have Bgc0 := cell_blk (j := 0) (v := .slice ag out.length dg) Bg.out rfl
        have Bgl := (Array.getElem?_eq_some_iff.1 Bg.out).1
        go_wp2_with fail
        refine (markRegion_any (Xx.below (by repeat (first | exact Below.refl _ _ | refine below_ov _ _ ?_ (by first | omega | (simp [ov_size] <;> omega)) | refine Below.alloc ?_ (by first | omega | (simp [ov_size] <;> omega)) _ | refine Below.setCell ?_ (by first | omega | (simp [ov_size] <;> omega)) _ | refine Below.drew ?_ | refine below_drewN ?_ _))) (by omega) ⟨by omega, by omega⟩).mono ?_
        rintro e W11 ⟨rfl, Yx, hg⟩
        have K : W10.grownBy W11 _ := grown_pre (by exact (by repeat (first | exact Below.refl _ _ | refine below_ov _ _ ?_ (by first | omega | (simp [ov_size] <;> omega)) | refine Below.alloc ?_ (by first | omega | (simp [ov_size] <;> omega)) _ | refine Below.setCell ?_ (by first | omega | (simp [ov_size] <;> omega)) _ | refine Below.drew ?_ | refine below_drewN ?_ _))) hg
        clear hg
        replace T := grown_below T K (fun k hk => (Xx.lt k hk).1) (Nat.le_refl _)
        clear B0c0 B1c0 Bwc0 Bxc0 Bvc0 Bgc0 B0l B1l Bwl Bxl Bvl Bgl
        replace B0 := box_grown B0 K (Xx.ne_box B0.out (by decide))
        replace B1 := box_grown B1 K (Xx.ne_box B1.out (by decide))
        replace Bw := box_grown Bw K (Xx.ne_box Bw.out (by decide))
        replace Bx := box_grown Bx K (Xx.ne_box Bx.out (by decide))
        replace Bv := box_grown Bv K (Xx.ne_box Bv.out (by decide))
        replace Bg := box_grown Bg K (Xx.ne_box Bg.out (by decide))
        replace Xw := Xw.grown Xx K apXwx.symm
        replace Xv := Xv.grown Xx K apXxv
        replace Xg := Xg.grown Xx K apXxg
        clear K S S2 Xx
        have S := R.below (TV.trans (T.mono s0))
        have S2 := R2.below (TV.trans (T.mono s0))
        clear Bx Yx
        have B0c0 := cell_blk (j := 0) (v := .slice A p.length c) B0.out rfl
        have B0l := (Array.getElem?_eq_some_iff.1 B0.out).1
        have B1c0 := cell_blk (j := 0) (v := .slice A2 q.length c2) B1.out rfl
        have B1l := (Array.getElem?_eq_some_iff.1 B1.out).1
        have Bwc0 := cell_blk (j := 0) (v := .slice aw out.length dw) Bw.out rfl
        have Bwl := (Array.getElem?_eq_some_iff.1 Bw.out).1
        have Bvc0 := cell_blk (j := 0) (v := .slice av q.length dv) Bv.out rfl
        have Bvl := (Array.getElem?_eq_some_iff.1 Bv.out).1
        have Bgc0 := cell_blk (j := 0) (v := .slice ag out.length dg) Bg.out rfl
        have Bgl := (Array.getElem?_eq_some_iff.1 Bg.out).1
        go_wp2_with fail
        refine (markRegion_any (Xv.below (by repeat (first | exact Below.refl _ _ | refine below_ov _ _ ?_ (by first | omega | (simp [ov_size] <;> omega)) | refine Below.alloc ?_ (by first | omega | (simp [ov_size] <;> omega)) _ | refine Below.setCell ?_ (by first | omega | (simp [ov_size] <;> omega)) _ | refine Below.drew ?_ | refine below_drewN ?_ _))) (by omega) ⟨by omega, by omega⟩).mono ?_
        rintro e W12 ⟨rfl, Yv, hg⟩
        have K : W11.grownBy W12 _ := grown_pre (by exact (by repeat (first | exact Below.refl _ _ | refine below_ov _ _ ?_ (by first | omega | (simp [ov_size] <;> omega)) | refine Below.alloc ?_ (by first | omega | (simp [ov_size] <;> omega)) _ | refine Below.setCell ?_ (by first | omega | (simp [ov_size] <;> omega)) _ | refine Below.drew ?_ | refine below_drewN ?_ _))) hg
        clear hg
        replace T := grown_below T K (fun k hk => (Xv.lt k hk).1) (Nat.le_refl _)
        clear B0c0 B1c0 Bwc0 Bvc0 Bgc0 B0l B1l Bwl Bvl Bgl
        replace B0 := box_grown B0 K (Xv.ne_box B0.out (by decide))
        replace B1 := box_grown B1 K (Xv.ne_box B1.out (by decide))
        replace Bw := box_grown Bw K (Xv.ne_box Bw.out (by decide))
        replace Bv := box_grown Bv K (Xv.ne_box Bv.out (by decide))
        replace Bg := box_grown Bg K (Xv.ne_box Bg.out (by decide))
        replace Xw := Xw.grown Xv K apXwv.symm
        replace Xg := Xg.grown Xv K apXvg
        clear K S S2 Xv
        have S := R.below (TV.trans (T.mono s0))
        have S2 := R2.below (TV.trans (T.mono s0))
        clear Bv Yv
        have B0c0 := cell_blk (j := 0) (v := .slice A p.length c) B0.out rfl
        have B0l := (Array.getElem?_eq_some_iff.1 B0.out).1
        have B1c0 := cell_blk (j := 0) (v := .slice A2 q.length c2) B1.out rfl
        have B1l := (Array.getElem?_eq_some_iff.1 B1.out).1
        have Bwc0 := cell_blk (j := 0) (v := .slice aw out.length dw) Bw.out rfl
        have Bwl := (Array.getElem?_eq_some_iff.1 Bw.out).1
        have Bgc0 := cell_blk (j := 0) (v := .slice ag out.length dg) Bg.out rfl
        have Bgl := (Array.getElem?_eq_some_iff.1 Bg.out).1
        go_wp2_with ((go_at_call 19; (first | (with_reducible refine (calls_ov2 (eqRegion_same (by first | exact ((Xg.below (by repeat (first | exact Below.refl _ _ | refine below_ov _ _ ?_ (by first | omega | (simp [ov_size] <;> omega)) | refine Below.alloc ?_ (by first | omega | (simp [ov_size] <;> omega)) _ | refine Below.setCell ?_ (by first | omega | (simp [ov_size] <;> omega)) _ | refine Below.drew ?_ | refine below_drewN ?_ _))).r3) | exact Xg.r3) (by first | exact ((Xw.below (by repeat (first | exact Below.refl _ _ | refine below_ov _ _ ?_ (by first | omega | (simp [ov_size] <;> omega)) | refine Below.alloc ?_ (by first | omega | (simp [ov_size] <;> omega)) _ | refine Below.setCell ?_ (by first | omega | (simp [ov_size] <;> omega)) _ | refine Below.drew ?_ | refine below_drewN ?_ _))).r3) | exact Xw.r3) (by omega))).mono ?_) | refine (calls_ov (eqRegion_same (by first | exact ((Xg.below (by repeat (first | exact Below.refl _ _ | refine below_ov _ _ ?_ (by first | omega | (simp [ov_size] <;> omega)) | refine Below.alloc ?_ (by first | omega | (simp [ov_size] <;> omega)) _ | refine Below.setCell ?_ (by first | omega | (simp [ov_size] <;> omega)) _ | refine Below.drew ?_ | refine below_drewN ?_ _))).r3) | exact Xg.r3) (by first | exact ((Xw.below (by repeat (first | exact Below.refl _ _ | refine below_ov _ _ ?_ (by first | omega | (simp [ov_size] <;> omega)) | refine Below.alloc ?_ (by first | omega | (simp [ov_size] <;> omega)) _ | refine Below.setCell ?_ (by first | omega | (simp [ov_size] <;> omega)) _ | refine Below.drew ?_ | refine below_drewN ?_ _))).r3) | exact Xw.r3) (by omega))).mono ?_); rintro e w' ⟨rfl, x, rfl⟩))
        refine (markRegion_any (Xg.below (by repeat (first | exact Below.refl _ _ | refine below_ov _ _ ?_ (by first | omega | (simp [ov_size] <;> omega)) | refine Below.alloc ?_ (by first | omega | (simp [ov_size] <;> omega)) _ | refine Below.setCell ?_ (by first | omega | (simp [ov_size] <;> omega)) _ | refine Below.drew ?_ | refine below_drewN ?_ _))) (by omega) ⟨by omega, by omega⟩).mono ?_
        rintro e W13 ⟨rfl, Yg, hg⟩
        have K : W12.grownBy W13 _ := grown_pre (by exact (by repeat (first | exact Below.refl _ _ | refine below_ov _ _ ?_ (by first | omega | (simp [ov_size] <;> omega)) | refine Below.alloc ?_ (by first | omega | (simp [ov_size] <;> omega)) _ | refine Below.setCell ?_ (by first | omega | (simp [ov_size] <;> omega)) _ | refine Below.drew ?_ | refine below_drewN ?_ _))) hg
        clear hg
        replace T := grown_below T K (fun k hk => (Xg.lt k hk).1) (Nat.le_refl _)
        clear B0c0 B1c0 Bwc0 Bgc0 B0l B1l Bwl Bgl
        replace B0 := box_grown B0 K (Xg.ne_box B0.out (by decide))
        replace B1 := box_grown B1 K (Xg.ne_box B1.out (by decide))
        replace Bw := box_grown Bw K (Xg.ne_box Bw.out (by decide))
        replace Bg := box_grown Bg K (Xg.ne_box Bg.out (by decide))
        replace Xw := Xw.grown Xg K apXwg.symm
        clear K S S2 Xg
        have S := R.below (TV.trans (T.mono s0))
        have S2 := R2.below (TV.trans (T.mono s0))
        have B0c0 := cell_blk (j := 0) (v := .slice A p.length c) B0.out rfl
        have B0l := (Array.getElem?_eq_some_iff.1 B0.out).1
        have B1c0 := cell_blk (j := 0) (v := .slice A2 q.length c2) B1.out rfl
        have B1l := (Array.getElem?_eq_some_iff.1 B1.out).1
        have Bwc0 := cell_blk (j := 0) (v := .slice aw out.length dw) Bw.out rfl
        have Bwl := (Array.getElem?_eq_some_iff.1 Bw.out).1
        have Bgc0 := cell_blk (j := 0) (v := .slice ag out.length dg) Bg.out rfl
        have Bgl := (Array.getElem?_eq_some_iff.1 Bg.out).1
        go_wp2_with (first | (go_at_call 21; (first | (with_reducible refine (calls_ov2 (heldRegion_any (by first | exact ((Yg.below (by repeat (first | exact Below.refl _ _ | refine below_ov _ _ ?_ (by first | omega | (simp [ov_size] <;> omega)) | refine Below.alloc ?_ (by first | omega | (simp [ov_size] <;> omega)) _ | refine Below.setCell ?_ (by first | omega | (simp [ov_size] <;> omega)) _ | refine Below.drew ?_ | refine below_drewN ?_ _))).r3) | exact Yg.r3) (by omega))).mono ?_) | refine (calls_ov (heldRegion_any (by first | exact ((Yg.below (by repeat (first | exact Below.refl _ _ | refine below_ov _ _ ?_ (by first | omega | (simp [ov_size] <;> omega)) | refine Below.alloc ?_ (by first | omega | (simp [ov_size] <;> omega)) _ | refine Below.setCell ?_ (by first | omega | (simp [ov_size] <;> omega)) _ | refine Below.drew ?_ | refine below_drewN ?_ _))).r3) | exact Yg.r3) (by omega))).mono ?_); rintro e w' ⟨rfl, x, rfl⟩))
        clear B0c0 B1c0 Bwc0 Bgc0 B0l B1l Bwl Bgl
        obtain ⟨W14, hW⟩ : ∃ W14, W14 = ov W13 x := ⟨_, rfl⟩
        rw [← hW]
        have K : Below W13.heap.size W13 W14 := by rw [hW]; exact (by repeat (first | exact Below.refl _ _ | refine below_ov _ _ ?_ (by first | omega | (simp [ov_size] <;> omega)) | refine Below.alloc ?_ (by first | omega | (simp [ov_size] <;> omega)) _ | refine Below.setCell ?_ (by first | omega | (simp [ov_size] <;> omega)) _ | refine Below.drew ?_ | refine below_drewN ?_ _))
        clear hW
        replace T := T.trans (K.mono T.size)
        replace B0 := box_below B0 K
        replace B1 := box_below B1 K
        replace Bw := box_below Bw K
        replace Bg := box_below Bg K
        replace Xw := Xw.below K
        replace Yg := Yg.below K
        clear K S S2
        have S := R.below (TV.trans (T.mono s0))
        have S2 := R2.below (TV.trans (T.mono s0))
        have B0c0 := cell_blk (j := 0) (v := .slice A p.length c) B0.out rfl
        have B0l := (Array.getElem?_eq_some_iff.1 B0.out).1
        have B1c0 := cell_blk (j := 0) (v := .slice A2 q.length c2) B1.out rfl
        have B1l := (Array.getElem?_eq_some_iff.1 B1.out).1
        have Bwc0 := cell_blk (j := 0) (v := .slice aw out.length dw) Bw.out rfl
        have Bwl := (Array.getElem?_eq_some_iff.1 Bw.out).1
        have Bgc0 := cell_blk (j := 0) (v := .slice ag out.length dg) Bg.out rfl
        have Bgl := (Array.getElem?_eq_some_iff.1 Bg.out).1
        refine wp_region_rel [.pur [] ?hc0, .rel [] [1] false (IsOw (GReg p)), .pur [] ?hc2, .rel [] [3] false (IsOw (GReg q)), .rel [1, 3] [4] false (IsOw (GTup out ok)), .rel [4] [5] false (IsOw (GTup out ok)), .rel [5] [6] false (IsOw (GReg out)), .pur [5] ?hc7, .rel [] [8] false (IsAl 28 1), .rel [8, 6] [8, 6] true (IsSt 28), .pur [] ?hc10] _ rfl rfl (by kernel_rfl) (by kernel_rfl) ?hsth (fun vs => ?walkh)
        case' walkh =>
          (refine wpRel_pur rfl rfl (fun x => by ((go_wp2); refine relEnd_pur rfl ?_ (by repeat (first | exact Below.refl _ _ | refine below_ov _ _ ?_ (by first | omega | (simp [ov_size] <;> omega)) | refine Below.alloc ?_ (by first | omega | (simp [ov_size] <;> omega)) _ | refine Below.setCell ?_ (by first | omega | (simp [ov_size] <;> omega)) _ | refine Below.drew ?_ | refine below_drewN ?_ _)); simp only [Act.put, List.setIfInBounds_toArray, List.set_cons_succ, List.set_cons_zero]; rfl)) ?_; simp only [Act.put, List.setIfInBounds_toArray, List.set_cons_succ, List.set_cons_zero])
          refine wpRel_own rfl rfl rfl (fun x hh => ?_) ?_
          · go_wp2_with fail
            refine (toRegion_any (S.below (by repeat (first | exact Below.refl _ _ | refine below_ov _ _ ?_ (by first | omega | (simp [ov_size] <;> omega)) | refine Below.alloc ?_ (by first | omega | (simp [ov_size] <;> omega)) _ | refine Below.setCell ?_ (by first | omega | (simp [ov_size] <;> omega)) _ | refine Below.drew ?_ | refine below_drewN ?_ _))) (by omega)).mono ?_
            rintro e w7 ⟨A7, c7, rfl, Q7, hb7⟩
            go_wp2
            refine relEnd_ow rfl rfl ?_ hb7 ⟨A7, c7, rfl, Q7.weak (by rw [ov_size]; omega)⟩
            (simp only [Act.put, List.setIfInBounds_toArray, List.set_cons_succ, List.set_cons_zero] <;> rfl)
          simp only [Act.put, List.setIfInBounds_toArray, List.set_cons_succ, List.set_cons_zero]
          (refine wpRel_pur rfl rfl (fun x => by ((go_wp2); refine relEnd_pur rfl ?_ (by repeat (first | exact Below.refl _ _ | refine below_ov _ _ ?_ (by first | omega | (simp [ov_size] <;> omega)) | refine Below.alloc ?_ (by first | omega | (simp [ov_size] <;> omega)) _ | refine Below.setCell ?_ (by first | omega | (simp [ov_size] <;> omega)) _ | refine Below.drew ?_ | refine below_drewN ?_ _)); simp only [Act.put, List.setIfInBounds_toArray, List.set_cons_succ, List.set_cons_zero]; rfl)) ?_; simp only [Act.put, List.setIfInBounds_toArray, List.set_cons_succ, List.set_cons_zero])
          refine wpRel_own rfl rfl rfl (fun x hh => ?_) ?_
          · go_wp2_with fail
            refine (toRegion_any (S2.below (by repeat (first | exact Below.refl _ _ | refine below_ov _ _ ?_ (by first | omega | (simp [ov_size] <;> omega)) | refine Below.alloc ?_ (by first | omega | (simp [ov_size] <;> omega)) _ | refine Below.setCell ?_ (by first | omega | (simp [ov_size] <;> omega)) _ | refine Below.drew ?_ | refine below_drewN ?_ _))) (by omega)).mono ?_
            rintro e w7 ⟨A7, c7, rfl, Q7, hb7⟩
            go_wp2
            refine relEnd_ow rfl rfl ?_ hb7 ⟨A7, c7, rfl, Q7.weak (by rw [ov_size]; omega)⟩
            (simp only [Act.put, List.setIfInBounds_toArray, List.set_cons_succ, List.set_cons_zero] <;> rfl)
          simp only [Act.put, List.setIfInBounds_toArray, List.set_cons_succ, List.set_cons_zero]
          refine wpRel_own rfl rfl rfl (fun x hh => ?_) ?_
          · obtain ⟨a, d, f, Q⟩ := isOw_at (hh 1 (by simp)) rfl
            obtain ⟨a', d', f', Q'⟩ := isOw_at (hh 3 (by simp)) rfl
            simp only [f, f']
            go_wp2_with fail
            refine (impl_MeetRegions_eq Q.r3 Q'.r3 (by omega) (by omega) HR).mono ?_
            rintro e w7 ⟨A7, c7, rfl, Q7, hb7⟩
            go_wp2
            refine relEnd_ow rfl rfl ?_ hb7 ⟨A7, c7, rfl, Q7.weak (by rw [ov_size]; omega)⟩
            (simp only [Act.put, List.setIfInBounds_toArray, List.set_cons_succ, List.set_cons_zero] <;> rfl)
          simp only [Act.put, List.setIfInBounds_toArray, List.set_cons_succ, List.set_cons_zero]
          refine wpRel_own rfl rfl rfl (fun x hh => ?_) ?_
          · obtain ⟨a, d, f, Q⟩ := isOw_at (hh 4 (by simp)) rfl
            simp only [f]
            go_wp2
            refine relEnd_ow rfl rfl ?_ (Below.refl _ _) ⟨a, d, rfl, Q⟩
            (simp only [Act.put, List.setIfInBounds_toArray, List.set_cons_succ, List.set_cons_zero] <;> rfl)
          simp only [Act.put, List.setIfInBounds_toArray, List.set_cons_succ, List.set_cons_zero]
          refine wpRel_own rfl rfl rfl (fun x hh => ?_) ?_
          · obtain ⟨a, d, f, Q⟩ := isOw_at (hh 5 (by simp)) rfl
            simp only [f]
            go_wp2
            refine relEnd_ow rfl rfl ?_ (Below.refl _ _) ⟨a, d, rfl, Q⟩
            (simp only [Act.put, List.setIfInBounds_toArray, List.set_cons_succ, List.set_cons_zero] <;> rfl)
          simp only [Act.put, List.setIfInBounds_toArray, List.set_cons_succ, List.set_cons_zero]
          (refine wpRel_purn rfl rfl (fun x hh => by ((obtain ⟨a, d, f, Q⟩ := isOw_at (hh 5 (by simp)) rfl; simp only [f]); (go_wp2); refine relEnd_pur rfl ?_ (by repeat (first | exact Below.refl _ _ | refine below_ov _ _ ?_ (by first | omega | (simp [ov_size] <;> omega)) | refine Below.alloc ?_ (by first | omega | (simp [ov_size] <;> omega)) _ | refine Below.setCell ?_ (by first | omega | (simp [ov_size] <;> omega)) _ | refine Below.drew ?_ | refine below_drewN ?_ _)); simp only [Act.put, List.setIfInBounds_toArray, List.set_cons_succ, List.set_cons_zero]; rfl)) ?_; simp only [Act.put, List.setIfInBounds_toArray, List.set_cons_succ, List.set_cons_zero])
          refine wpRel_al #[.slice none 0 0] rfl rfl rfl rfl rfl rfl (fun w => by simp [go_sem]) ?_
          simp only [Act.put, List.setIfInBounds_toArray, List.set_cons_succ, List.set_cons_zero]
          refine wpRel_so rfl rfl rfl rfl rfl rfl (by decide) (by decide) rfl rfl (by kernel_rfl) (fun w hw => by obtain ⟨a, d, f, _⟩ := hw; rw [f]; exact reg_cells _ _ _) (by repeat (first | exact all_nil | refine all_cons trivial ?_ | refine all_cons isAl_steady ?_ | refine all_cons (isOw_steady (by assumption)) ?_)) ?_
          (refine wpRel_pur rfl rfl (fun x => by ((go_wp2); refine relEnd_pur rfl ?_ (by repeat (first | exact Below.refl _ _ | refine below_ov _ _ ?_ (by first | omega | (simp [ov_size] <;> omega)) | refine Below.alloc ?_ (by first | omega | (simp [ov_size] <;> omega)) _ | refine Below.setCell ?_ (by first | omega | (simp [ov_size] <;> omega)) _ | refine Below.drew ?_ | refine below_drewN ?_ _)); simp only [Act.put, List.setIfInBounds_toArray, List.set_cons_succ, List.set_cons_zero]; rfl)) ?_; simp only [Act.put, List.setIfInBounds_toArray, List.set_cons_succ, List.set_cons_zero])
          refine wpRelE_nilB0 (fun W15 K hh => ?_)
          obtain ⟨bh, e, hb, hx⟩ := isSt_own (hh 9) rfl rfl rfl
          obtain ⟨ah, dh, f, Xh⟩ := isOw_at (hh 6) rfl
          rw [f] at hx
          simp only [e]
          have Bh := Lib.hid hx
          clear hh e f hx hb
          clear B0c0 B1c0 Bwc0 Bgc0 B0l B1l Bwl Bgl
          have apXwh := apart_new Xw Xh (Nat.le_refl _)
          have apYgh := apart_new Yg Xh (Nat.le_refl _)
          replace Xh := Xh.weak (B' := V.heap.size) T.size
          replace T := T.trans (K.mono T.size)
          replace B0 := box_below B0 K
          replace B1 := box_below B1 K
          replace Bw := box_below Bw K
          replace Bg := box_below Bg K
          replace Xw := Xw.below K
          replace Yg := Yg.below K
          clear K S S2
          have S := R.below (TV.trans (T.mono s0))
          have S2 := R2.below (TV.trans (T.mono s0))
          have B0c0 := cell_blk (j := 0) (v := .slice A p.length c) B0.out rfl
          have B0l := (Array.getElem?_eq_some_iff.1 B0.out).1
          have B1c0 := cell_blk (j := 0) (v := .slice A2 q.length c2) B1.out rfl
          have B1l := (Array.getElem?_eq_some_iff.1 B1.out).1
          have Bwc0 := cell_blk (j := 0) (v := .slice aw out.length dw) Bw.out rfl
          have Bwl := (Array.getElem?_eq_some_iff.1 Bw.out).1
          have Bgc0 := cell_blk (j := 0) (v := .slice ag out.length dg) Bg.out rfl
          have Bgl := (Array.getElem?_eq_some_iff.1 Bg.out).1
          have Bhc0 := cell_blk (j := 0) (v := .slice ah out.length dh) Bh.out rfl
          have Bhl := (Array.getElem?_eq_some_iff.1 Bh.out).1
          go_wp2_with (first | (go_at_call 21; (first | (with_reducible refine (calls_ov2 (heldRegion_any (by first | exact ((Yg.below (by repeat (first | exact Below.refl _ _ | refine below_ov _ _ ?_ (by first | omega | (simp [ov_size] <;> omega)) | refine Below.alloc ?_ (by first | omega | (simp [ov_size] <;> omega)) _ | refine Below.setCell ?_ (by first | omega | (simp [ov_size] <;> omega)) _ | refine Below.drew ?_ | refine below_drewN ?_ _))).r3) | exact Yg.r3) (by omega))).mono ?_) | refine (calls_ov (heldRegion_any (by first | exact ((Yg.below (by repeat (first | exact Below.refl _ _ | refine below_ov _ _ ?_ (by first | omega | (simp [ov_size] <;> omega)) | refine Below.alloc ?_ (by first | omega | (simp [ov_size] <;> omega)) _ | refine Below.setCell ?_ (by first | omega | (simp [ov_size] <;> omega)) _ | refine Below.drew ?_ | refine below_drewN ?_ _))).r3) | exact Yg.r3) (by omega))).mono ?_); rintro e w' ⟨rfl, x, rfl⟩) | (go_at_call 19; (first | (with_reducible refine (calls_ov2 (eqRegion_same (by first | exact ((Xh.below (by repeat (first | exact Below.refl _ _ | refine below_ov _ _ ?_ (by first | omega | (simp [ov_size] <;> omega)) | refine Below.alloc ?_ (by first | omega | (simp [ov_size] <;> omega)) _ | refine Below.setCell ?_ (by first | omega | (simp [ov_size] <;> omega)) _ | refine Below.drew ?_ | refine below_drewN ?_ _))).r3) | exact Xh.r3) (by first | exact ((Xw.below (by repeat (first | exact Below.refl _ _ | refine below_ov _ _ ?_ (by first | omega | (simp [ov_size] <;> omega)) | refine Below.alloc ?_ (by first | omega | (simp [ov_size] <;> omega)) _ | refine Below.setCell ?_ (by first | omega | (simp [ov_size] <;> omega)) _ | refine Below.drew ?_ | refine below_drewN ?_ _))).r3) | exact Xw.r3) (by omega))).mono ?_) | refine (calls_ov (eqRegion_same (by first | exact ((Xh.below (by repeat (first | exact Below.refl _ _ | refine below_ov _ _ ?_ (by first | omega | (simp [ov_size] <;> omega)) | refine Below.alloc ?_ (by first | omega | (simp [ov_size] <;> omega)) _ | refine Below.setCell ?_ (by first | omega | (simp [ov_size] <;> omega)) _ | refine Below.drew ?_ | refine below_drewN ?_ _))).r3) | exact Xh.r3) (by first | exact ((Xw.below (by repeat (first | exact Below.refl _ _ | refine below_ov _ _ ?_ (by first | omega | (simp [ov_size] <;> omega)) | refine Below.alloc ?_ (by first | omega | (simp [ov_size] <;> omega)) _ | refine Below.setCell ?_ (by first | omega | (simp [ov_size] <;> omega)) _ | refine Below.drew ?_ | refine below_drewN ?_ _))).r3) | exact Xw.r3) (by omega))).mono ?_); rintro e w' ⟨rfl, x, rfl⟩))
          go_ret
          exact ⟨rfl, (by repeat (first | exact TV.trans (T.mono s0) | refine below_ov _ _ ?_ (by first | omega | (simp [ov_size] <;> omega)) | refine Below.alloc ?_ (by first | omega | (simp [ov_size] <;> omega)) _ | refine Below.setCell ?_ (by first | omega | (simp [ov_size] <;> omega)) _ | refine Below.drew ?_ | refine below_drewN ?_ _))⟩
        case' hsth => exact (by repeat (first | exact all_nil | refine all_cons trivial ?_ | refine all_cons isAl_stable ?_ | refine all_cons isSt_stable ?_ | refine all_cons isStB_stable ?_ | refine all_cons (isOw_stable (by assumption)) ?_))
      case' hstf => exact (by repeat (first | exact all_nil | refine all_cons trivial ?_ | refine all_cons isAl_stable ?_ | refine all_cons isSt_stable ?_ | refine all_cons isStB_stable ?_ | refine all_cons (isOw_stable (by assumption)) ?_))
    case' hste => exact (by repeat (first | exact all_nil | refine all_cons trivial ?_ | refine all_cons isAl_stable ?_ | refine all_cons isSt_stable ?_ | refine all_cons isStB_stable ?_ | refine all_cons (isOw_stable (by assumption)) ?_))
  case' hstw => exact (by repeat (first | exact all_nil | refine all_cons trivial ?_ | refine all_cons isAl_stable ?_ | refine all_cons isSt_stable ?_ | refine all_cons isStB_stable ?_ | refine all_cons (isOw_stable (by assumption)) ?_))
set_option maxRecDepth 100000 in
theorem FnExactMeetRegions_lifted (os : Os) (started : os.Started) (H : Type) (enc : TypeId × Value → H) :
    ReturnsInHanded {} Try.checked os 3 .any (Rows.fnExactMeetRegionsSpec.pre6 enc Try.prog Try.f3 Rows.fnExactMeetRegionsRow.domain false) (Rows.fnExactMeetRegionsSpec.post enc Try.prog Try.f3 false true false false) := by
  refine returnsInHanded_of_change (C := Try.checked) own started (by kernel_rfl) Try.func3
    (ChangeSpec.witness6 (enc := enc) (C := Try.checked) false ⟨#[], #[.agg #[.slice none 0 0], .agg #[.slice none 0 0]], []⟩ 8 (by kernel_rfl) (by kernel_rfl) (by kernel_rfl) (by kernel_rfl)) ?_
  intro W base args ds gs before hval0 hW hcnd _
  have hval : ∀ (j : Nat) t v, Try.f3.params[j]? = some t → args[j]? = some v → Value.okWide Try.prog W .any base t v := hval0
  have hW' := hW
  obtain ⟨p, q, hA0, hV, rfl, hfz, hnd⟩ := hW
  have hA : DataW.TrodAll enc Try.prog W 0 (fun _ => true) true Try.f3.params.toList args.toList ds p := hA0
  rw [Try.params3] at hA hval
  obtain ⟨v0, vs0, d0, ds0, p0, q0, hargs0, rfl, rfl, h0, r0⟩ := trodAll_cons hA
  obtain ⟨v1, vs1, d1, ds1, p1, q1, hargs1, rfl, rfl, h1, r1⟩ := trodAll_cons r0
  obtain ⟨rfl, rfl, rfl⟩ := trodAll_nil r1
  obtain rfl : args = #[v0, v1] := by cases args; simp_all
  obtain ⟨rfl, rfl⟩ := trodVars_none hV
  have k0 := h0
  have lt0 : ∀ x ∈ p0, x.block < W.heap.size := by obtain ⟨m, hm⟩ := k0; exact DataW.trod_lt m _ _ _ hm
  have k1 := h1
  have lt1 : ∀ x ∈ p1, x.block < W.heap.size := by obtain ⟨m, hm⟩ := k1; exact DataW.trod_lt m _ _ _ hm
  have hv0 := hval 0 24 v0 rfl rfl
  have hv1 := hval 1 24 v1 rfl rfl
  obtain ⟨A, c, hs, rfl, RR, hlen⟩ := open_region hv0 h0
  obtain ⟨A2, c2, hs2, rfl, RR2, hlen2⟩ := open_region hv1 h1
  clear hA0 hval0
  refine (law12_any W RR RR2 hlen hlen2).mono fun e W' ⟨he, bel⟩ => ?_
  subst he
  exact ⟨_, rfl, _, _, _, [], _, [], hW', trodAll_mk1 (shut_bool Try.underlying4 _), (trodAll_cons_mk (Below.trod laidOut (by kernel_rfl) (of_decide_eq_true (by kernel_rfl)) k0 bel lt0) (trodAll_cons_mk (Below.trod laidOut (by kernel_rfl) (of_decide_eq_true (by kernel_rfl)) k1 bel lt1) trodAll_mk0)), rfl, bel.frame _, fun h => by cases h⟩

theorem FnExactMeetRegions_holds : Rows.FnExactMeetRegionsSaid :=
  OpenClaim.holds_of_wide 3 Try.f3 rfl rfl rfl rfl rfl rfl rfl ⟨rfl, rfl, rfl, rfl, rfl⟩ rfl rfl rfl rfl rfl (by kernel_rfl) Try.func3 (by kernel_rfl)
    (of_decide_eq_true (by kernel_rfl)) (by unfold Func.isWrapper; first | (rw [if_pos (by decide +kernel)]; kernel_rfl) | (rw [if_neg (by decide +kernel)]; exact ⟨rfl, rfl⟩))
    (fun os started H enc _ => FnExactMeetRegions_lifted os started H enc)
#print axioms FnExactMeetRegions_holds

end Go.Proofs.Ytnenlgaafiifpaa
