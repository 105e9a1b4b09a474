/- FnExactCutRegion returns true for every argument, and leaves it as it was. No condition. -/
import Derived.Test.YtnenlgaafiifpaaCu
set_option linter.unusedVariables false
set_option linter.unusedSimpArgs false
set_option linter.unusedSectionVars false
namespace Go.Proofs.Ytnenlgaafiifpaa
open Go.ChangeShapes Go.WideShapes Go.ChangeAt Go.RowKit Go.Joins

theorem cutR_short {hs out : List H3} {h : H3} {ok : Bool} (hr : cutR hs h = (out, ok)) : out.length ≤ 1000 := by
  unfold cutR at hr
  split at hr
  · rename_i hc
    split at hr
    · simp at hr; rw [hr.1]; simp
    · rename_i hne
      obtain ⟨G, e, _⟩ := regionOk_parts hc.2.1 hne
      have := meet_few G (rest := [h]) (fun g hg => by obtain rfl := List.mem_singleton.1 hg; exact (halfOk_iff _).1 hc.1) e hne
      simp at hr this
      rw [← hr.1]; omega
  · simp at hr; rw [hr.1]; simp

set_option maxRecDepth 100000 in
set_option maxHeartbeats 8000000 in
theorem law14_any {hs : List H3} {h : H3} {A : Option Addr} {c : Nat} (w : World) (R : RL w A hs) (hl : hs.length ≤ 9223372036854775807) :
    Calls Try.prog 4 #[.agg #[.slice A hs.length c], .agg #[.int .i64 h.a, .int .i64 h.b, .int .i64 h.c]] w fun e w' => e = .returned (.bool true) ∧ Below w.heap.size w w' := by
  obtain ⟨z, hz⟩ : ∃ z, szL hs.length 1048576 = z := ⟨_, rfl⟩
  have HZ := Lib.hid hz
  by_cases hc : z < 0
  · clear hz
    go_enter Try.func4, Try.ntmps4
    go_wp2_with ((go_at_call 15; (first | (with_reducible refine (calls_ov2 (szRegion_eq HZ hl ⟨by omega, by omega⟩)).mono ?_) | refine (calls_ov (szRegion_eq HZ hl ⟨by omega, by omega⟩)).mono ?_); rintro e w' ⟨rfl, x, rfl⟩))
    go_ret
    exact ⟨rfl, (by repeat (first | exact Below.refl _ _ | refine below_ov _ _ ?_ (by first | omega | (simp [ov_size] <;> omega)) | refine Below.alloc ?_ (by first | omega | (simp [ov_size] <;> omega)) _ | refine Below.setCell ?_ (by first | omega | (simp [ov_size] <;> omega)) _ | refine Below.drew ?_ | refine below_drewN ?_ _))⟩
  have hm : hs.length ≤ 1048576 := by unfold szL at hz; split at hz <;> omega
  obtain ⟨⟨out, ok⟩, hr⟩ : ∃ r, cutR hs h = r := ⟨_, rfl⟩
  have ho := cutR_short hr
  have HR := Lib.hid hr
  have OR := owned_reg hs
  have OO := owned_reg out
  have OT := owned_tup out ok
  clear hr hz
  go_enter Try.func4, Try.ntmps4
  go_wp2_with ((go_at_call 15; (first | (with_reducible refine (calls_ov2 (szRegion_eq HZ hl ⟨by omega, by omega⟩)).mono ?_) | refine (calls_ov (szRegion_eq HZ hl ⟨by omega, by omega⟩)).mono ?_); rintro e w' ⟨rfl, x, rfl⟩))
  obtain ⟨V, hV⟩ : ∃ V, (w.alloc (.cells #[.slice A hs.length c] 24)).alloc (.cells #[.int .i64 h.a, .int .i64 h.b, .int .i64 h.c] 36) = V := ⟨_, rfl⟩
  have TV : Below w.heap.size w V := by rw [← hV]; exact (by repeat (first | exact Below.refl _ _ | refine below_ov _ _ ?_ (by first | omega | (simp [ov_size] <;> omega)) | refine Below.alloc ?_ (by first | omega | (simp [ov_size] <;> omega)) _ | refine Below.setCell ?_ (by first | omega | (simp [ov_size] <;> omega)) _ | refine Below.drew ?_ | refine below_drewN ?_ _))
  have X0 : V.heap[w.heap.size]? = some (.cells #[.slice A hs.length c] 24 (0, 0)) := by rw [← hV]; exact (heap_old_at (by simp)).trans (heap_alloc_new _ _)
  have X1 : V.heap[w.heap.size + 1]? = some (.cells #[.int .i64 h.a, .int .i64 h.b, .int .i64 h.c] 36 (0, 0)) := by rw [← hV]; exact heap_new_at (by simp) rfl
  rw [hV]
  clear hV
  generalize w.heap.size + 1 = b1 at X1 ⊢
  obtain ⟨W0, hW⟩ : ∃ W0, W0 = ov V x := ⟨_, rfl⟩
  rw [← hW]
  have T : Below V.heap.size V W0 := by rw [hW]; exact (by repeat (first | exact Below.refl _ _ | refine below_ov _ _ ?_ (by first | omega | (simp [ov_size] <;> omega)) | refine Below.alloc ?_ (by first | omega | (simp [ov_size] <;> omega)) _ | refine Below.setCell ?_ (by first | omega | (simp [ov_size] <;> omega)) _ | refine Below.drew ?_ | refine below_drewN ?_ _))
  clear hW
  have B0 := box_below (Lib.hid X0) T
  have B1 := box_below (Lib.hid X1) T
  clear X0 X1
  have s0 : w.heap.size ≤ V.heap.size := TV.size
  have S := R.below (TV.trans (T.mono s0))
  have B0c0 := cell_blk (j := 0) (v := .slice A hs.length c) B0.out rfl
  have B0l := (Array.getElem?_eq_some_iff.1 B0.out).1
  have B1c0 := cell_blk (j := 0) (v := .int .i64 h.a) B1.out rfl
  have B1c1 := cell_blk (j := 1) (v := .int .i64 h.b) B1.out rfl
  have B1c2 := cell_blk (j := 2) (v := .int .i64 h.c) B1.out rfl
  have B1l := (Array.getElem?_eq_some_iff.1 B1.out).1
  refine wp_region_rel [.pur [] ?wc0, .rel [] [1] false (IsOw (GReg hs)), .pur [] ?wc2, .pur [] ?wc3, .rel [1] [4] false (IsOw (GTup out ok)), .rel [4] [5] false (IsOw (GTup out ok)), .rel [5] [6] false (IsOw (GReg out)), .pur [5] ?wc7, .rel [] [8] false (IsAl 28 1), .rel [8, 6] [8, 6] true (IsSt 28), .pur [] ?wc10] _ rfl rfl (by kernel_rfl) (by kernel_rfl) ?hstw (fun vs => ?walkw)
  case' walkw =>
    (refine wpRel_pur rfl rfl (fun x => by ((go_wp2); refine relEnd_pur rfl ?_ (by repeat (first | exact Below.refl _ _ | refine below_ov _ _ ?_ (by first | omega | (simp [ov_size] <;> omega)) | refine Below.alloc ?_ (by first | omega | (simp [ov_size] <;> omega)) _ | refine Below.setCell ?_ (by first | omega | (simp [ov_size] <;> omega)) _ | refine Below.drew ?_ | refine below_drewN ?_ _)); simp only [Act.put, List.setIfInBounds_toArray, List.set_cons_succ, List.set_cons_zero]; rfl)) ?_; simp only [Act.put, List.setIfInBounds_toArray, List.set_cons_succ, List.set_cons_zero])
    refine wpRel_own rfl rfl rfl (fun x hh => ?_) ?_
    · go_wp2_with fail
      refine (toRegion_any (S.below (by repeat (first | exact Below.refl _ _ | refine below_ov _ _ ?_ (by first | omega | (simp [ov_size] <;> omega)) | refine Below.alloc ?_ (by first | omega | (simp [ov_size] <;> omega)) _ | refine Below.setCell ?_ (by first | omega | (simp [ov_size] <;> omega)) _ | refine Below.drew ?_ | refine below_drewN ?_ _))) (by omega)).mono ?_
      rintro e w7 ⟨A7, c7, rfl, Q7, hb7⟩
      go_wp2
      refine relEnd_ow rfl rfl ?_ hb7 ⟨A7, c7, rfl, Q7.weak (by rw [ov_size]; omega)⟩
      (simp only [Act.put, List.setIfInBounds_toArray, List.set_cons_succ, List.set_cons_zero] <;> rfl)
    simp only [Act.put, List.setIfInBounds_toArray, List.set_cons_succ, List.set_cons_zero]
    (refine wpRel_pur rfl rfl (fun x => by ((go_wp2); refine relEnd_pur rfl ?_ (by repeat (first | exact Below.refl _ _ | refine below_ov _ _ ?_ (by first | omega | (simp [ov_size] <;> omega)) | refine Below.alloc ?_ (by first | omega | (simp [ov_size] <;> omega)) _ | refine Below.setCell ?_ (by first | omega | (simp [ov_size] <;> omega)) _ | refine Below.drew ?_ | refine below_drewN ?_ _)); simp only [Act.put, List.setIfInBounds_toArray, List.set_cons_succ, List.set_cons_zero]; rfl)) ?_; simp only [Act.put, List.setIfInBounds_toArray, List.set_cons_succ, List.set_cons_zero])
    (refine wpRel_pur rfl rfl (fun x => by ((go_wp2_with (first | (go_at_call 23; refine (calls_ov (toHalf_any h _)).mono ?_; rintro e w' ⟨rfl, x, rfl⟩))); refine relEnd_pur rfl ?_ (by repeat (first | exact Below.refl _ _ | refine below_ov _ _ ?_ (by first | omega | (simp [ov_size] <;> omega)) | refine Below.alloc ?_ (by first | omega | (simp [ov_size] <;> omega)) _ | refine Below.setCell ?_ (by first | omega | (simp [ov_size] <;> omega)) _ | refine Below.drew ?_ | refine below_drewN ?_ _)); simp only [Act.put, List.setIfInBounds_toArray, List.set_cons_succ, List.set_cons_zero]; rfl)) ?_; simp only [Act.put, List.setIfInBounds_toArray, List.set_cons_succ, List.set_cons_zero])
    refine wpRel_own rfl rfl rfl (fun x hh => ?_) ?_
    · obtain ⟨a, d, f, Q⟩ := isOw_at (hh 1 (by simp)) rfl
      simp only [f]
      go_wp2_with fail
      refine (spec_CutRegion_eq (Q.r3) (by omega) HR).mono ?_
      rintro e w7 ⟨A7, c7, rfl, Q7, hb7⟩
      go_wp2
      refine relEnd_ow rfl rfl ?_ hb7 ⟨A7, c7, rfl, Q7.weak (by rw [ov_size]; omega)⟩
      (simp only [Act.put, List.setIfInBounds_toArray, List.set_cons_succ, List.set_cons_zero] <;> rfl)
    simp only [Act.put, List.setIfInBounds_toArray, List.set_cons_succ, List.set_cons_zero]
    refine wpRel_own rfl rfl rfl (fun x hh => ?_) ?_
    · obtain ⟨a, d, f, Q⟩ := isOw_at (hh 4 (by simp)) rfl
      simp only [f]
      go_wp2
      refine relEnd_ow rfl rfl ?_ (Below.refl _ _) ⟨a, d, rfl, Q⟩
      (simp only [Act.put, List.setIfInBounds_toArray, List.set_cons_succ, List.set_cons_zero] <;> rfl)
    simp only [Act.put, List.setIfInBounds_toArray, List.set_cons_succ, List.set_cons_zero]
    refine wpRel_own rfl rfl rfl (fun x hh => ?_) ?_
    · obtain ⟨a, d, f, Q⟩ := isOw_at (hh 5 (by simp)) rfl
      simp only [f]
      go_wp2
      refine relEnd_ow rfl rfl ?_ (Below.refl _ _) ⟨a, d, rfl, Q⟩
      (simp only [Act.put, List.setIfInBounds_toArray, List.set_cons_succ, List.set_cons_zero] <;> rfl)
    simp only [Act.put, List.setIfInBounds_toArray, List.set_cons_succ, List.set_cons_zero]
    (refine wpRel_purn rfl rfl (fun x hh => by ((obtain ⟨a, d, f, Q⟩ := isOw_at (hh 5 (by simp)) rfl; simp only [f]); (go_wp2); refine relEnd_pur rfl ?_ (by repeat (first | exact Below.refl _ _ | refine below_ov _ _ ?_ (by first | omega | (simp [ov_size] <;> omega)) | refine Below.alloc ?_ (by first | omega | (simp [ov_size] <;> omega)) _ | refine Below.setCell ?_ (by first | omega | (simp [ov_size] <;> omega)) _ | refine Below.drew ?_ | refine below_drewN ?_ _)); simp only [Act.put, List.setIfInBounds_toArray, List.set_cons_succ, List.set_cons_zero]; rfl)) ?_; simp only [Act.put, List.setIfInBounds_toArray, List.set_cons_succ, List.set_cons_zero])
    refine wpRel_al #[.slice none 0 0] rfl rfl rfl rfl rfl rfl (fun w => by simp [go_sem]) ?_
    simp only [Act.put, List.setIfInBounds_toArray, List.set_cons_succ, List.set_cons_zero]
    refine wpRel_so rfl rfl rfl rfl rfl rfl (by decide) (by decide) rfl rfl (by kernel_rfl) (fun w hw => by obtain ⟨a, d, f, _⟩ := hw; rw [f]; exact reg_cells _ _ _) (by repeat (first | exact all_nil | refine all_cons trivial ?_ | refine all_cons isAl_steady ?_ | refine all_cons (isOw_steady (by assumption)) ?_)) ?_
    (refine wpRel_pur rfl rfl (fun x => by ((go_wp2); refine relEnd_pur rfl ?_ (by repeat (first | exact Below.refl _ _ | refine below_ov _ _ ?_ (by first | omega | (simp [ov_size] <;> omega)) | refine Below.alloc ?_ (by first | omega | (simp [ov_size] <;> omega)) _ | refine Below.setCell ?_ (by first | omega | (simp [ov_size] <;> omega)) _ | refine Below.drew ?_ | refine below_drewN ?_ _)); simp only [Act.put, List.setIfInBounds_toArray, List.set_cons_succ, List.set_cons_zero]; rfl)) ?_; simp only [Act.put, List.setIfInBounds_toArray, List.set_cons_succ, List.set_cons_zero])
    refine wpRelE_nilB0 (fun W1 K hh => ?_)
    obtain ⟨bw, e, hb, hx⟩ := isSt_own (hh 9) rfl rfl rfl
    obtain ⟨aw, dw, f, Xw⟩ := isOw_at (hh 6) rfl
    rw [f] at hx
    simp only [e]
    have Bw := Lib.hid hx
    clear hh e f hx hb
    clear B0c0 B1c0 B1c1 B1c2 B0l B1l
    replace Xw := Xw.weak (B' := V.heap.size) T.size
    replace T := T.trans (K.mono T.size)
    replace B0 := box_below B0 K
    replace B1 := box_below B1 K
    clear K S
    have S := R.below (TV.trans (T.mono s0))
    have B0c0 := cell_blk (j := 0) (v := .slice A hs.length c) B0.out rfl
    have B0l := (Array.getElem?_eq_some_iff.1 B0.out).1
    have B1c0 := cell_blk (j := 0) (v := .int .i64 h.a) B1.out rfl
    have B1c1 := cell_blk (j := 1) (v := .int .i64 h.b) B1.out rfl
    have B1c2 := cell_blk (j := 2) (v := .int .i64 h.c) B1.out rfl
    have B1l := (Array.getElem?_eq_some_iff.1 B1.out).1
    have Bwc0 := cell_blk (j := 0) (v := .slice aw out.length dw) Bw.out rfl
    have Bwl := (Array.getElem?_eq_some_iff.1 Bw.out).1
    go_wp2_with fail
    refine (toRegion_any (S.below (by repeat (first | exact Below.refl _ _ | refine below_ov _ _ ?_ (by first | omega | (simp [ov_size] <;> omega)) | refine Below.alloc ?_ (by first | omega | (simp [ov_size] <;> omega)) _ | refine Below.setCell ?_ (by first | omega | (simp [ov_size] <;> omega)) _ | refine Below.drew ?_ | refine below_drewN ?_ _))) (by omega)).mono ?_
    rintro e W2 ⟨ax, dx, rfl, Xx, hb⟩
    have apXwXx := apart_new Xw Xx (by simp)
    have K : Below W1.heap.size W1 W2 := Below.trans (by repeat (first | exact Below.refl _ _ | refine below_ov _ _ ?_ (by first | omega | (simp [ov_size] <;> omega)) | refine Below.alloc ?_ (by first | omega | (simp [ov_size] <;> omega)) _ | refine Below.setCell ?_ (by first | omega | (simp [ov_size] <;> omega)) _ | refine Below.drew ?_ | refine below_drewN ?_ _)) (hb.mono (by simp))
    replace Xx := Xx.weak (B' := V.heap.size) (by have := T.size; simp; omega)
    clear hb
    clear B0c0 B1c0 B1c1 B1c2 Bwc0 B0l B1l Bwl
    replace T := T.trans (K.mono T.size)
    replace B0 := box_below B0 K
    replace B1 := box_below B1 K
    replace Bw := box_below Bw K
    replace Xw := Xw.below K
    clear K S
    have S := R.below (TV.trans (T.mono s0))
    have B0c0 := cell_blk (j := 0) (v := .slice A hs.length c) B0.out rfl
    have B0l := (Array.getElem?_eq_some_iff.1 B0.out).1
    have B1c0 := cell_blk (j := 0) (v := .int .i64 h.a) B1.out rfl
    have B1c1 := cell_blk (j := 1) (v := .int .i64 h.b) B1.out rfl
    have B1c2 := cell_blk (j := 2) (v := .int .i64 h.c) B1.out rfl
    have B1l := (Array.getElem?_eq_some_iff.1 B1.out).1
    have Bwc0 := cell_blk (j := 0) (v := .slice aw out.length dw) Bw.out rfl
    have Bwl := (Array.getElem?_eq_some_iff.1 Bw.out).1
    go_wp2
    obtain ⟨bx, hbx⟩ : ∃ bx, bx = W2.heap.size := ⟨_, rfl⟩
    rw [← hbx]
    obtain ⟨W3, hW⟩ : ∃ W3, W3 = W2.alloc (.cells #[.slice ax hs.length dx] 28) := ⟨_, rfl⟩
    rw [← hW]
    have K : Below W2.heap.size W2 W3 := by rw [hW]; exact (by repeat (first | exact Below.refl _ _ | refine below_ov _ _ ?_ (by first | omega | (simp [ov_size] <;> omega)) | refine Below.alloc ?_ (by first | omega | (simp [ov_size] <;> omega)) _ | refine Below.setCell ?_ (by first | omega | (simp [ov_size] <;> omega)) _ | refine Below.drew ?_ | refine below_drewN ?_ _))
    have Bx := Lib.hid (show W3.heap[bx]? = some (.cells #[.slice ax hs.length dx] 28 (0, 0)) by rw [hW, hbx]; exact heap_alloc_new _ _)
    clear hW hbx
    replace Xx := Xx.below K
    clear B0c0 B1c0 B1c1 B1c2 Bwc0 B0l B1l Bwl
    replace T := T.trans (K.mono T.size)
    replace B0 := box_below B0 K
    replace B1 := box_below B1 K
    replace Bw := box_below Bw K
    replace Xw := Xw.below K
    clear K S
    have S := R.below (TV.trans (T.mono s0))
    have B0c0 := cell_blk (j := 0) (v := .slice A hs.length c) B0.out rfl
    have B0l := (Array.getElem?_eq_some_iff.1 B0.out).1
    have B1c0 := cell_blk (j := 0) (v := .int .i64 h.a) B1.out rfl
    have B1c1 := cell_blk (j := 1) (v := .int .i64 h.b) B1.out rfl
    have B1c2 := cell_blk (j := 2) (v := .int .i64 h.c) B1.out rfl
    have B1l := (Array.getElem?_eq_some_iff.1 B1.out).1
    have Bwc0 := cell_blk (j := 0) (v := .slice aw out.length dw) Bw.out rfl
    have Bwl := (Array.getElem?_eq_some_iff.1 Bw.out).1
    have Bxc0 := cell_blk (j := 0) (v := .slice ax hs.length dx) Bx.out rfl
    have Bxl := (Array.getElem?_eq_some_iff.1 Bx.out).1
    refine wp_region_rel [.pur [] ?gc0, .pur [] ?gc1, .pur [] ?gc2, .rel [] [3] false (IsOw (GTup out ok)), .rel [3] [4] false (IsOw (GTup out ok)), .rel [4] [5] false (IsOw (GReg out)), .pur [4] ?gc6, .rel [] [7] false (IsAl 28 1), .rel [7, 5] [7, 5] true (IsSt 28), .pur [] ?gc9] _ rfl rfl (by kernel_rfl) (by kernel_rfl) ?hstg (fun vs => ?walkg)
    case' walkg =>
      (refine wpRel_pur rfl rfl (fun x => by ((go_wp2); refine relEnd_pur rfl ?_ (by repeat (first | exact Below.refl _ _ | refine below_ov _ _ ?_ (by first | omega | (simp [ov_size] <;> omega)) | refine Below.alloc ?_ (by first | omega | (simp [ov_size] <;> omega)) _ | refine Below.setCell ?_ (by first | omega | (simp [ov_size] <;> omega)) _ | refine Below.drew ?_ | refine below_drewN ?_ _)); simp only [Act.put, List.setIfInBounds_toArray, List.set_cons_succ, List.set_cons_zero]; rfl)) ?_; simp only [Act.put, List.setIfInBounds_toArray, List.set_cons_succ, List.set_cons_zero])
      (refine wpRel_pur rfl rfl (fun x => by ((go_wp2); refine relEnd_pur rfl ?_ (by repeat (first | exact Below.refl _ _ | refine below_ov _ _ ?_ (by first | omega | (simp [ov_size] <;> omega)) | refine Below.alloc ?_ (by first | omega | (simp [ov_size] <;> omega)) _ | refine Below.setCell ?_ (by first | omega | (simp [ov_size] <;> omega)) _ | refine Below.drew ?_ | refine below_drewN ?_ _)); simp only [Act.put, List.setIfInBounds_toArray, List.set_cons_succ, List.set_cons_zero]; rfl)) ?_; simp only [Act.put, List.setIfInBounds_toArray, List.set_cons_succ, List.set_cons_zero])
      (refine wpRel_pur rfl rfl (fun x => by ((go_wp2_with (first | (go_at_call 23; refine (calls_ov (toHalf_any h _)).mono ?_; rintro e w' ⟨rfl, x, rfl⟩))); refine relEnd_pur rfl ?_ (by repeat (first | exact Below.refl _ _ | refine below_ov _ _ ?_ (by first | omega | (simp [ov_size] <;> omega)) | refine Below.alloc ?_ (by first | omega | (simp [ov_size] <;> omega)) _ | refine Below.setCell ?_ (by first | omega | (simp [ov_size] <;> omega)) _ | refine Below.drew ?_ | refine below_drewN ?_ _)); simp only [Act.put, List.setIfInBounds_toArray, List.set_cons_succ, List.set_cons_zero]; rfl)) ?_; simp only [Act.put, List.setIfInBounds_toArray, List.set_cons_succ, List.set_cons_zero])
      refine wpRel_own rfl rfl rfl (fun x hh => ?_) ?_
      · go_wp2_with fail
        refine (impl_CutRegion_eq (((Xx.below (by repeat (first | exact Below.refl _ _ | refine below_ov _ _ ?_ (by first | omega | (simp [ov_size] <;> omega)) | refine Below.alloc ?_ (by first | omega | (simp [ov_size] <;> omega)) _ | refine Below.setCell ?_ (by first | omega | (simp [ov_size] <;> omega)) _ | refine Below.drew ?_ | refine below_drewN ?_ _))).r3)) (by omega) HR).mono ?_
        rintro e w7 ⟨A7, c7, rfl, Q7, hb7⟩
        go_wp2
        refine relEnd_ow rfl rfl ?_ hb7 ⟨A7, c7, rfl, Q7.weak (by rw [ov_size]; omega)⟩
        (simp only [Act.put, List.setIfInBounds_toArray, List.set_cons_succ, List.set_cons_zero] <;> rfl)
      simp only [Act.put, List.setIfInBounds_toArray, List.set_cons_succ, List.set_cons_zero]
      refine wpRel_own rfl rfl rfl (fun x hh => ?_) ?_
      · obtain ⟨a, d, f, Q⟩ := isOw_at (hh 3 (by simp)) rfl
        simp only [f]
        go_wp2
        refine relEnd_ow rfl rfl ?_ (Below.refl _ _) ⟨a, d, rfl, Q⟩
        (simp only [Act.put, List.setIfInBounds_toArray, List.set_cons_succ, List.set_cons_zero] <;> rfl)
      simp only [Act.put, List.setIfInBounds_toArray, List.set_cons_succ, List.set_cons_zero]
      refine wpRel_own rfl rfl rfl (fun x hh => ?_) ?_
      · obtain ⟨a, d, f, Q⟩ := isOw_at (hh 4 (by simp)) rfl
        simp only [f]
        go_wp2
        refine relEnd_ow rfl rfl ?_ (Below.refl _ _) ⟨a, d, rfl, Q⟩
        (simp only [Act.put, List.setIfInBounds_toArray, List.set_cons_succ, List.set_cons_zero] <;> rfl)
      simp only [Act.put, List.setIfInBounds_toArray, List.set_cons_succ, List.set_cons_zero]
      (refine wpRel_purn rfl rfl (fun x hh => by ((obtain ⟨a, d, f, Q⟩ := isOw_at (hh 4 (by simp)) rfl; simp only [f]); (go_wp2); refine relEnd_pur rfl ?_ (by repeat (first | exact Below.refl _ _ | refine below_ov _ _ ?_ (by first | omega | (simp [ov_size] <;> omega)) | refine Below.alloc ?_ (by first | omega | (simp [ov_size] <;> omega)) _ | refine Below.setCell ?_ (by first | omega | (simp [ov_size] <;> omega)) _ | refine Below.drew ?_ | refine below_drewN ?_ _)); simp only [Act.put, List.setIfInBounds_toArray, List.set_cons_succ, List.set_cons_zero]; rfl)) ?_; simp only [Act.put, List.setIfInBounds_toArray, List.set_cons_succ, List.set_cons_zero])
      refine wpRel_al #[.slice none 0 0] rfl rfl rfl rfl rfl rfl (fun w => by simp [go_sem]) ?_
      simp only [Act.put, List.setIfInBounds_toArray, List.set_cons_succ, List.set_cons_zero]
      refine wpRel_so rfl rfl rfl rfl rfl rfl (by decide) (by decide) rfl rfl (by kernel_rfl) (fun w hw => by obtain ⟨a, d, f, _⟩ := hw; rw [f]; exact reg_cells _ _ _) (by repeat (first | exact all_nil | refine all_cons trivial ?_ | refine all_cons isAl_steady ?_ | refine all_cons (isOw_steady (by assumption)) ?_)) ?_
      (refine wpRel_pur rfl rfl (fun x => by ((go_wp2); refine relEnd_pur rfl ?_ (by repeat (first | exact Below.refl _ _ | refine below_ov _ _ ?_ (by first | omega | (simp [ov_size] <;> omega)) | refine Below.alloc ?_ (by first | omega | (simp [ov_size] <;> omega)) _ | refine Below.setCell ?_ (by first | omega | (simp [ov_size] <;> omega)) _ | refine Below.drew ?_ | refine below_drewN ?_ _)); simp only [Act.put, List.setIfInBounds_toArray, List.set_cons_succ, List.set_cons_zero]; rfl)) ?_; simp only [Act.put, List.setIfInBounds_toArray, List.set_cons_succ, List.set_cons_zero])
      refine wpRelE_nilB0 (fun W4 K hh => ?_)
      obtain ⟨bg, e, hb, hx⟩ := isSt_own (hh 8) rfl rfl rfl
      obtain ⟨ag, dg, f, Xg⟩ := isOw_at (hh 5) rfl
      rw [f] at hx
      simp only [e]
      have Bg := Lib.hid hx
      clear hh e f hx hb
      clear B0c0 B1c0 B1c1 B1c2 Bwc0 Bxc0 B0l B1l Bwl Bxl
      have apXwg := apart_new Xw Xg (Nat.le_refl _)
      have apXxg := apart_new Xx Xg (Nat.le_refl _)
      replace Xg := Xg.weak (B' := V.heap.size) T.size
      replace T := T.trans (K.mono T.size)
      replace B0 := box_below B0 K
      replace B1 := box_below B1 K
      replace Bw := box_below Bw K
      replace Bx := box_below Bx K
      replace Xw := Xw.below K
      replace Xx := Xx.below K
      clear K S
      have S := R.below (TV.trans (T.mono s0))
      have B0c0 := cell_blk (j := 0) (v := .slice A hs.length c) B0.out rfl
      have B0l := (Array.getElem?_eq_some_iff.1 B0.out).1
      have B1c0 := cell_blk (j := 0) (v := .int .i64 h.a) B1.out rfl
      have B1c1 := cell_blk (j := 1) (v := .int .i64 h.b) B1.out rfl
      have B1c2 := cell_blk (j := 2) (v := .int .i64 h.c) B1.out rfl
      have B1l := (Array.getElem?_eq_some_iff.1 B1.out).1
      have Bwc0 := cell_blk (j := 0) (v := .slice aw out.length dw) Bw.out rfl
      have Bwl := (Array.getElem?_eq_some_iff.1 Bw.out).1
      have Bxc0 := cell_blk (j := 0) (v := .slice ax hs.length dx) Bx.out rfl
      have Bxl := (Array.getElem?_eq_some_iff.1 Bx.out).1
      have Bgc0 := cell_blk (j := 0) (v := .slice ag out.length dg) Bg.out rfl
      have Bgl := (Array.getElem?_eq_some_iff.1 Bg.out).1
      go_wp2_with ((go_at_call 19; (first | (with_reducible refine (calls_ov2 (eqRegion_same (by first | exact ((Xg.below (by repeat (first | exact Below.refl _ _ | refine below_ov _ _ ?_ (by first | omega | (simp [ov_size] <;> omega)) | refine Below.alloc ?_ (by first | omega | (simp [ov_size] <;> omega)) _ | refine Below.setCell ?_ (by first | omega | (simp [ov_size] <;> omega)) _ | refine Below.drew ?_ | refine below_drewN ?_ _))).r3) | exact Xg.r3) (by first | exact ((Xw.below (by repeat (first | exact Below.refl _ _ | refine below_ov _ _ ?_ (by first | omega | (simp [ov_size] <;> omega)) | refine Below.alloc ?_ (by first | omega | (simp [ov_size] <;> omega)) _ | refine Below.setCell ?_ (by first | omega | (simp [ov_size] <;> omega)) _ | refine Below.drew ?_ | refine below_drewN ?_ _))).r3) | exact Xw.r3) (by omega))).mono ?_) | refine (calls_ov (eqRegion_same (by first | exact ((Xg.below (by repeat (first | exact Below.refl _ _ | refine below_ov _ _ ?_ (by first | omega | (simp [ov_size] <;> omega)) | refine Below.alloc ?_ (by first | omega | (simp [ov_size] <;> omega)) _ | refine Below.setCell ?_ (by first | omega | (simp [ov_size] <;> omega)) _ | refine Below.drew ?_ | refine below_drewN ?_ _))).r3) | exact Xg.r3) (by first | exact ((Xw.below (by repeat (first | exact Below.refl _ _ | refine below_ov _ _ ?_ (by first | omega | (simp [ov_size] <;> omega)) | refine Below.alloc ?_ (by first | omega | (simp [ov_size] <;> omega)) _ | refine Below.setCell ?_ (by first | omega | (simp [ov_size] <;> omega)) _ | refine Below.drew ?_ | refine below_drewN ?_ _))).r3) | exact Xw.r3) (by omega))).mono ?_); rintro e w' ⟨rfl, x, rfl⟩))
      clear B0c0 B1c0 B1c1 B1c2 Bwc0 Bxc0 Bgc0 B0l B1l Bwl Bxl Bgl
      obtain ⟨W5, hW⟩ : ∃ W5, W5 = ov W4 x := ⟨_, rfl⟩
      rw [← hW]
      have K : Below W4.heap.size W4 W5 := by rw [hW]; exact (by repeat (first | exact Below.refl _ _ | refine below_ov _ _ ?_ (by first | omega | (simp [ov_size] <;> omega)) | refine Below.alloc ?_ (by first | omega | (simp [ov_size] <;> omega)) _ | refine Below.setCell ?_ (by first | omega | (simp [ov_size] <;> omega)) _ | refine Below.drew ?_ | refine below_drewN ?_ _))
      clear hW
      replace T := T.trans (K.mono T.size)
      replace B0 := box_below B0 K
      replace B1 := box_below B1 K
      replace Bw := box_below Bw K
      replace Bx := box_below Bx K
      replace Bg := box_below Bg K
      replace Xw := Xw.below K
      replace Xx := Xx.below K
      replace Xg := Xg.below K
      clear K S
      have S := R.below (TV.trans (T.mono s0))
      have B0c0 := cell_blk (j := 0) (v := .slice A hs.length c) B0.out rfl
      have B0l := (Array.getElem?_eq_some_iff.1 B0.out).1
      have B1c0 := cell_blk (j := 0) (v := .int .i64 h.a) B1.out rfl
      have B1c1 := cell_blk (j := 1) (v := .int .i64 h.b) B1.out rfl
      have B1c2 := cell_blk (j := 2) (v := .int .i64 h.c) B1.out rfl
      have B1l := (Array.getElem?_eq_some_iff.1 B1.out).1
      have Bwc0 := cell_blk (j := 0) (v := .slice aw out.length dw) Bw.out rfl
      have Bwl := (Array.getElem?_eq_some_iff.1 Bw.out).1
      have Bxc0 := cell_blk (j := 0) (v := .slice ax hs.length dx) Bx.out rfl
      have Bxl := (Array.getElem?_eq_some_iff.1 Bx.out).1
      have Bgc0 := cell_blk (j := 0) (v := .slice ag out.length dg) Bg.out rfl
      have Bgl := (Array.getElem?_eq_some_iff.1 Bg.out).1
      refine wp_region_rel [.pur [] ?e0, .pur [] ?e1, .rel [] [2] false (IsOw (GReg hs)), .pur [2] ?e3, .pur [] ?e4] _ rfl rfl (by kernel_rfl) (by kernel_rfl) ?hste (fun vs => ?walke)
      case' walke =>
        (refine wpRel_pur rfl rfl (fun x => by ((go_wp2); refine relEnd_pur rfl ?_ (by repeat (first | exact Below.refl _ _ | refine below_ov _ _ ?_ (by first | omega | (simp [ov_size] <;> omega)) | refine Below.alloc ?_ (by first | omega | (simp [ov_size] <;> omega)) _ | refine Below.setCell ?_ (by first | omega | (simp [ov_size] <;> omega)) _ | refine Below.drew ?_ | refine below_drewN ?_ _)); simp only [Act.put, List.setIfInBounds_toArray, List.set_cons_succ, List.set_cons_zero]; rfl)) ?_; simp only [Act.put, List.setIfInBounds_toArray, List.set_cons_succ, List.set_cons_zero])
        (refine wpRel_pur rfl rfl (fun x => by ((go_wp2); refine relEnd_pur rfl ?_ (by repeat (first | exact Below.refl _ _ | refine below_ov _ _ ?_ (by first | omega | (simp [ov_size] <;> omega)) | refine Below.alloc ?_ (by first | omega | (simp [ov_size] <;> omega)) _ | refine Below.setCell ?_ (by first | omega | (simp [ov_size] <;> omega)) _ | refine Below.drew ?_ | refine below_drewN ?_ _)); simp only [Act.put, List.setIfInBounds_toArray, List.set_cons_succ, List.set_cons_zero]; rfl)) ?_; simp only [Act.put, List.setIfInBounds_toArray, List.set_cons_succ, List.set_cons_zero])
        refine wpRel_own rfl rfl rfl (fun x hh => ?_) ?_
        · go_wp2_with fail
          refine (toRegion_any (S.below (by repeat (first | exact Below.refl _ _ | refine below_ov _ _ ?_ (by first | omega | (simp [ov_size] <;> omega)) | refine Below.alloc ?_ (by first | omega | (simp [ov_size] <;> omega)) _ | refine Below.setCell ?_ (by first | omega | (simp [ov_size] <;> omega)) _ | refine Below.drew ?_ | refine below_drewN ?_ _))) (by omega)).mono ?_
          rintro e w7 ⟨A7, c7, rfl, Q7, hb7⟩
          go_wp2
          refine relEnd_ow rfl rfl ?_ hb7 ⟨A7, c7, rfl, Q7.weak (by rw [ov_size]; omega)⟩
          (simp only [Act.put, List.setIfInBounds_toArray, List.set_cons_succ, List.set_cons_zero] <;> rfl)
        simp only [Act.put, List.setIfInBounds_toArray, List.set_cons_succ, List.set_cons_zero]
        (refine wpRel_purn rfl rfl (fun x hh => by ((obtain ⟨a, d, f, Q⟩ := isOw_at (hh 2 (by simp)) rfl; simp only [f]); (go_wp2_with (first | (go_at_call 19; refine (calls_ov (eqRegion_same ((Xx.below (by repeat (first | exact Below.refl _ _ | refine below_ov _ _ ?_ (by first | omega | (simp [ov_size] <;> omega)) | refine Below.alloc ?_ (by first | omega | (simp [ov_size] <;> omega)) _ | refine Below.setCell ?_ (by first | omega | (simp [ov_size] <;> omega)) _ | refine Below.drew ?_ | refine below_drewN ?_ _))).r3) Q.r3 (by omega))).mono ?_; rintro e w' ⟨rfl, x, rfl⟩))); refine relEnd_pur rfl ?_ (by repeat (first | exact Below.refl _ _ | refine below_ov _ _ ?_ (by first | omega | (simp [ov_size] <;> omega)) | refine Below.alloc ?_ (by first | omega | (simp [ov_size] <;> omega)) _ | refine Below.setCell ?_ (by first | omega | (simp [ov_size] <;> omega)) _ | refine Below.drew ?_ | refine below_drewN ?_ _)); simp only [Act.put, List.setIfInBounds_toArray, List.set_cons_succ, List.set_cons_zero]; rfl)) ?_; simp only [Act.put, List.setIfInBounds_toArray, List.set_cons_succ, List.set_cons_zero])
        (refine wpRel_pur rfl rfl (fun x => by ((go_wp2); refine relEnd_pur rfl ?_ (by repeat (first | exact Below.refl _ _ | refine below_ov _ _ ?_ (by first | omega | (simp [ov_size] <;> omega)) | refine Below.alloc ?_ (by first | omega | (simp [ov_size] <;> omega)) _ | refine Below.setCell ?_ (by first | omega | (simp [ov_size] <;> omega)) _ | refine Below.drew ?_ | refine below_drewN ?_ _)); simp only [Act.put, List.setIfInBounds_toArray, List.set_cons_succ, List.set_cons_zero]; rfl)) ?_; simp only [Act.put, List.setIfInBounds_toArray, List.set_cons_succ, List.set_cons_zero])
        refine wpRelE_nilB0 (fun W6 K hh => ?_)
        clear hh
        clear B0c0 B1c0 B1c1 B1c2 Bwc0 Bxc0 Bgc0 B0l B1l Bwl Bxl Bgl
        replace T := T.trans (K.mono T.size)
        replace B0 := box_below B0 K
        replace B1 := box_below B1 K
        replace Bw := box_below Bw K
        replace Bx := box_below Bx K
        replace Bg := box_below Bg K
        replace Xw := Xw.below K
        replace Xx := Xx.below K
        replace Xg := Xg.below K
        clear K S
        have S := R.below (TV.trans (T.mono s0))
        have B0c0 := cell_blk (j := 0) (v := .slice A hs.length c) B0.out rfl
        have B0l := (Array.getElem?_eq_some_iff.1 B0.out).1
        have B1c0 := cell_blk (j := 0) (v := .int .i64 h.a) B1.out rfl
        have B1c1 := cell_blk (j := 1) (v := .int .i64 h.b) B1.out rfl
        have B1c2 := cell_blk (j := 2) (v := .int .i64 h.c) B1.out rfl
        have B1l := (Array.getElem?_eq_some_iff.1 B1.out).1
        have Bwc0 := cell_blk (j := 0) (v := .slice aw out.length dw) Bw.out rfl
        have Bwl := (Array.getElem?_eq_some_iff.1 Bw.out).1
        have Bxc0 := cell_blk (j := 0) (v := .slice ax hs.length dx) Bx.out rfl
        have Bxl := (Array.getElem?_eq_some_iff.1 Bx.out).1
        have Bgc0 := cell_blk (j := 0) (v := .slice ag out.length dg) Bg.out rfl
        have Bgl := (Array.getElem?_eq_some_iff.1 Bg.out).1
        go_wp2_with fail
        refine (markRegion_any (Xx.below (by repeat (first | exact Below.refl _ _ | refine below_ov _ _ ?_ (by first | omega | (simp [ov_size] <;> omega)) | refine Below.alloc ?_ (by first | omega | (simp [ov_size] <;> omega)) _ | refine Below.setCell ?_ (by first | omega | (simp [ov_size] <;> omega)) _ | refine Below.drew ?_ | refine below_drewN ?_ _))) (by omega) ⟨by omega, by omega⟩).mono ?_
        rintro e W7 ⟨rfl, Yx, hg⟩
        have K : W6.grownBy W7 _ := grown_pre (by exact (by repeat (first | exact Below.refl _ _ | refine below_ov _ _ ?_ (by first | omega | (simp [ov_size] <;> omega)) | refine Below.alloc ?_ (by first | omega | (simp [ov_size] <;> omega)) _ | refine Below.setCell ?_ (by first | omega | (simp [ov_size] <;> omega)) _ | refine Below.drew ?_ | refine below_drewN ?_ _))) hg
        clear hg
        replace T := grown_below T K (fun k hk => (Xx.lt k hk).1) (Nat.le_refl _)
        clear B0c0 B1c0 B1c1 B1c2 Bwc0 Bgc0 Bxc0 B0l B1l Bwl Bgl Bxl
        replace B0 := box_grown B0 K (Xx.ne_box B0.out (by decide))
        replace B1 := box_grown B1 K (Xx.ne_box B1.out (by decide))
        replace Bw := box_grown Bw K (Xx.ne_box Bw.out (by decide))
        replace Bg := box_grown Bg K (Xx.ne_box Bg.out (by decide))
        replace Bx := box_grown Bx K (Xx.ne_box Bx.out (by decide))
        replace Xw := Xw.grown Xx K apXwXx.symm
        replace Xg := Xg.grown Xx K apXxg
        clear K S Xx
        have S := R.below (TV.trans (T.mono s0))
        clear Bx Yx
        have B0c0 := cell_blk (j := 0) (v := .slice A hs.length c) B0.out rfl
        have B0l := (Array.getElem?_eq_some_iff.1 B0.out).1
        have B1c0 := cell_blk (j := 0) (v := .int .i64 h.a) B1.out rfl
        have B1c1 := cell_blk (j := 1) (v := .int .i64 h.b) B1.out rfl
        have B1c2 := cell_blk (j := 2) (v := .int .i64 h.c) B1.out rfl
        have B1l := (Array.getElem?_eq_some_iff.1 B1.out).1
        have Bwc0 := cell_blk (j := 0) (v := .slice aw out.length dw) Bw.out rfl
        have Bwl := (Array.getElem?_eq_some_iff.1 Bw.out).1
        have Bgc0 := cell_blk (j := 0) (v := .slice ag out.length dg) Bg.out rfl
        have Bgl := (Array.getElem?_eq_some_iff.1 Bg.out).1
        go_wp2_with ((go_at_call 19; (first | (with_reducible refine (calls_ov2 (eqRegion_same (by first | exact ((Xg.below (by repeat (first | exact Below.refl _ _ | refine below_ov _ _ ?_ (by first | omega | (simp [ov_size] <;> omega)) | refine Below.alloc ?_ (by first | omega | (simp [ov_size] <;> omega)) _ | refine Below.setCell ?_ (by first | omega | (simp [ov_size] <;> omega)) _ | refine Below.drew ?_ | refine below_drewN ?_ _))).r3) | exact Xg.r3) (by first | exact ((Xw.below (by repeat (first | exact Below.refl _ _ | refine below_ov _ _ ?_ (by first | omega | (simp [ov_size] <;> omega)) | refine Below.alloc ?_ (by first | omega | (simp [ov_size] <;> omega)) _ | refine Below.setCell ?_ (by first | omega | (simp [ov_size] <;> omega)) _ | refine Below.drew ?_ | refine below_drewN ?_ _))).r3) | exact Xw.r3) (by omega))).mono ?_) | refine (calls_ov (eqRegion_same (by first | exact ((Xg.below (by repeat (first | exact Below.refl _ _ | refine below_ov _ _ ?_ (by first | omega | (simp [ov_size] <;> omega)) | refine Below.alloc ?_ (by first | omega | (simp [ov_size] <;> omega)) _ | refine Below.setCell ?_ (by first | omega | (simp [ov_size] <;> omega)) _ | refine Below.drew ?_ | refine below_drewN ?_ _))).r3) | exact Xg.r3) (by first | exact ((Xw.below (by repeat (first | exact Below.refl _ _ | refine below_ov _ _ ?_ (by first | omega | (simp [ov_size] <;> omega)) | refine Below.alloc ?_ (by first | omega | (simp [ov_size] <;> omega)) _ | refine Below.setCell ?_ (by first | omega | (simp [ov_size] <;> omega)) _ | refine Below.drew ?_ | refine below_drewN ?_ _))).r3) | exact Xw.r3) (by omega))).mono ?_); rintro e w' ⟨rfl, x, rfl⟩))
        refine (markRegion_any (Xg.below (by repeat (first | exact Below.refl _ _ | refine below_ov _ _ ?_ (by first | omega | (simp [ov_size] <;> omega)) | refine Below.alloc ?_ (by first | omega | (simp [ov_size] <;> omega)) _ | refine Below.setCell ?_ (by first | omega | (simp [ov_size] <;> omega)) _ | refine Below.drew ?_ | refine below_drewN ?_ _))) (by omega) ⟨by omega, by omega⟩).mono ?_
        rintro e W8 ⟨rfl, Yg, hg⟩
        have K : W7.grownBy W8 _ := grown_pre (by exact (by repeat (first | exact Below.refl _ _ | refine below_ov _ _ ?_ (by first | omega | (simp [ov_size] <;> omega)) | refine Below.alloc ?_ (by first | omega | (simp [ov_size] <;> omega)) _ | refine Below.setCell ?_ (by first | omega | (simp [ov_size] <;> omega)) _ | refine Below.drew ?_ | refine below_drewN ?_ _))) hg
        clear hg
        replace T := grown_below T K (fun k hk => (Xg.lt k hk).1) (Nat.le_refl _)
        clear B0c0 B1c0 B1c1 B1c2 Bwc0 Bgc0 B0l B1l Bwl Bgl
        replace B0 := box_grown B0 K (Xg.ne_box B0.out (by decide))
        replace B1 := box_grown B1 K (Xg.ne_box B1.out (by decide))
        replace Bw := box_grown Bw K (Xg.ne_box Bw.out (by decide))
        replace Bg := box_grown Bg K (Xg.ne_box Bg.out (by decide))
        replace Xw := Xw.grown Xg K apXwg.symm
        clear K S Xg
        have S := R.below (TV.trans (T.mono s0))
        have B0c0 := cell_blk (j := 0) (v := .slice A hs.length c) B0.out rfl
        have B0l := (Array.getElem?_eq_some_iff.1 B0.out).1
        have B1c0 := cell_blk (j := 0) (v := .int .i64 h.a) B1.out rfl
        have B1c1 := cell_blk (j := 1) (v := .int .i64 h.b) B1.out rfl
        have B1c2 := cell_blk (j := 2) (v := .int .i64 h.c) B1.out rfl
        have B1l := (Array.getElem?_eq_some_iff.1 B1.out).1
        have Bwc0 := cell_blk (j := 0) (v := .slice aw out.length dw) Bw.out rfl
        have Bwl := (Array.getElem?_eq_some_iff.1 Bw.out).1
        have Bgc0 := cell_blk (j := 0) (v := .slice ag out.length dg) Bg.out rfl
        have Bgl := (Array.getElem?_eq_some_iff.1 Bg.out).1
        go_wp2_with (first | (go_at_call 21; (first | (with_reducible refine (calls_ov2 (heldRegion_any (by first | exact ((Yg.below (by repeat (first | exact Below.refl _ _ | refine below_ov _ _ ?_ (by first | omega | (simp [ov_size] <;> omega)) | refine Below.alloc ?_ (by first | omega | (simp [ov_size] <;> omega)) _ | refine Below.setCell ?_ (by first | omega | (simp [ov_size] <;> omega)) _ | refine Below.drew ?_ | refine below_drewN ?_ _))).r3) | exact Yg.r3) (by omega))).mono ?_) | refine (calls_ov (heldRegion_any (by first | exact ((Yg.below (by repeat (first | exact Below.refl _ _ | refine below_ov _ _ ?_ (by first | omega | (simp [ov_size] <;> omega)) | refine Below.alloc ?_ (by first | omega | (simp [ov_size] <;> omega)) _ | refine Below.setCell ?_ (by first | omega | (simp [ov_size] <;> omega)) _ | refine Below.drew ?_ | refine below_drewN ?_ _))).r3) | exact Yg.r3) (by omega))).mono ?_); rintro e w' ⟨rfl, x, rfl⟩))
        clear B0c0 B1c0 B1c1 B1c2 Bwc0 Bgc0 B0l B1l Bwl Bgl
        obtain ⟨W9, hW⟩ : ∃ W9, W9 = ov W8 x := ⟨_, rfl⟩
        rw [← hW]
        have K : Below W8.heap.size W8 W9 := by rw [hW]; exact (by repeat (first | exact Below.refl _ _ | refine below_ov _ _ ?_ (by first | omega | (simp [ov_size] <;> omega)) | refine Below.alloc ?_ (by first | omega | (simp [ov_size] <;> omega)) _ | refine Below.setCell ?_ (by first | omega | (simp [ov_size] <;> omega)) _ | refine Below.drew ?_ | refine below_drewN ?_ _))
        clear hW
        replace T := T.trans (K.mono T.size)
        replace B0 := box_below B0 K
        replace B1 := box_below B1 K
        replace Bw := box_below Bw K
        replace Bg := box_below Bg K
        replace Xw := Xw.below K
        replace Yg := Yg.below K
        clear K S
        have S := R.below (TV.trans (T.mono s0))
        have B0c0 := cell_blk (j := 0) (v := .slice A hs.length c) B0.out rfl
        have B0l := (Array.getElem?_eq_some_iff.1 B0.out).1
        have B1c0 := cell_blk (j := 0) (v := .int .i64 h.a) B1.out rfl
        have B1c1 := cell_blk (j := 1) (v := .int .i64 h.b) B1.out rfl
        have B1c2 := cell_blk (j := 2) (v := .int .i64 h.c) B1.out rfl
        have B1l := (Array.getElem?_eq_some_iff.1 B1.out).1
        have Bwc0 := cell_blk (j := 0) (v := .slice aw out.length dw) Bw.out rfl
        have Bwl := (Array.getElem?_eq_some_iff.1 Bw.out).1
        have Bgc0 := cell_blk (j := 0) (v := .slice ag out.length dg) Bg.out rfl
        have Bgl := (Array.getElem?_eq_some_iff.1 Bg.out).1
        refine wp_region_rel [.pur [] ?hc0, .rel [] [1] false (IsOw (GReg hs)), .pur [] ?hc2, .pur [] ?hc3, .rel [1] [4] false (IsOw (GTup out ok)), .rel [4] [5] false (IsOw (GTup out ok)), .rel [5] [6] false (IsOw (GReg out)), .pur [5] ?hc7, .rel [] [8] false (IsAl 28 1), .rel [8, 6] [8, 6] true (IsSt 28), .pur [] ?hc10] _ rfl rfl (by kernel_rfl) (by kernel_rfl) ?hsth (fun vs => ?walkh)
        case' walkh =>
          (refine wpRel_pur rfl rfl (fun x => by ((go_wp2); refine relEnd_pur rfl ?_ (by repeat (first | exact Below.refl _ _ | refine below_ov _ _ ?_ (by first | omega | (simp [ov_size] <;> omega)) | refine Below.alloc ?_ (by first | omega | (simp [ov_size] <;> omega)) _ | refine Below.setCell ?_ (by first | omega | (simp [ov_size] <;> omega)) _ | refine Below.drew ?_ | refine below_drewN ?_ _)); simp only [Act.put, List.setIfInBounds_toArray, List.set_cons_succ, List.set_cons_zero]; rfl)) ?_; simp only [Act.put, List.setIfInBounds_toArray, List.set_cons_succ, List.set_cons_zero])
          refine wpRel_own rfl rfl rfl (fun x hh => ?_) ?_
          · go_wp2_with fail
            refine (toRegion_any (S.below (by repeat (first | exact Below.refl _ _ | refine below_ov _ _ ?_ (by first | omega | (simp [ov_size] <;> omega)) | refine Below.alloc ?_ (by first | omega | (simp [ov_size] <;> omega)) _ | refine Below.setCell ?_ (by first | omega | (simp [ov_size] <;> omega)) _ | refine Below.drew ?_ | refine below_drewN ?_ _))) (by omega)).mono ?_
            rintro e w7 ⟨A7, c7, rfl, Q7, hb7⟩
            go_wp2
            refine relEnd_ow rfl rfl ?_ hb7 ⟨A7, c7, rfl, Q7.weak (by rw [ov_size]; omega)⟩
            (simp only [Act.put, List.setIfInBounds_toArray, List.set_cons_succ, List.set_cons_zero] <;> rfl)
          simp only [Act.put, List.setIfInBounds_toArray, List.set_cons_succ, List.set_cons_zero]
          (refine wpRel_pur rfl rfl (fun x => by ((go_wp2); refine relEnd_pur rfl ?_ (by repeat (first | exact Below.refl _ _ | refine below_ov _ _ ?_ (by first | omega | (simp [ov_size] <;> omega)) | refine Below.alloc ?_ (by first | omega | (simp [ov_size] <;> omega)) _ | refine Below.setCell ?_ (by first | omega | (simp [ov_size] <;> omega)) _ | refine Below.drew ?_ | refine below_drewN ?_ _)); simp only [Act.put, List.setIfInBounds_toArray, List.set_cons_succ, List.set_cons_zero]; rfl)) ?_; simp only [Act.put, List.setIfInBounds_toArray, List.set_cons_succ, List.set_cons_zero])
          (refine wpRel_pur rfl rfl (fun x => by ((go_wp2_with (first | (go_at_call 23; refine (calls_ov (toHalf_any h _)).mono ?_; rintro e w' ⟨rfl, x, rfl⟩))); refine relEnd_pur rfl ?_ (by repeat (first | exact Below.refl _ _ | refine below_ov _ _ ?_ (by first | omega | (simp [ov_size] <;> omega)) | refine Below.alloc ?_ (by first | omega | (simp [ov_size] <;> omega)) _ | refine Below.setCell ?_ (by first | omega | (simp [ov_size] <;> omega)) _ | refine Below.drew ?_ | refine below_drewN ?_ _)); simp only [Act.put, List.setIfInBounds_toArray, List.set_cons_succ, List.set_cons_zero]; rfl)) ?_; simp only [Act.put, List.setIfInBounds_toArray, List.set_cons_succ, List.set_cons_zero])
          refine wpRel_own rfl rfl rfl (fun x hh => ?_) ?_
          · obtain ⟨a, d, f, Q⟩ := isOw_at (hh 1 (by simp)) rfl
            simp only [f]
            go_wp2_with fail
            refine (impl_CutRegion_eq (Q.r3) (by omega) HR).mono ?_
            rintro e w7 ⟨A7, c7, rfl, Q7, hb7⟩
            go_wp2
            refine relEnd_ow rfl rfl ?_ hb7 ⟨A7, c7, rfl, Q7.weak (by rw [ov_size]; omega)⟩
            (simp only [Act.put, List.setIfInBounds_toArray, List.set_cons_succ, List.set_cons_zero] <;> rfl)
          simp only [Act.put, List.setIfInBounds_toArray, List.set_cons_succ, List.set_cons_zero]
          refine wpRel_own rfl rfl rfl (fun x hh => ?_) ?_
          · obtain ⟨a, d, f, Q⟩ := isOw_at (hh 4 (by simp)) rfl
            simp only [f]
            go_wp2
            refine relEnd_ow rfl rfl ?_ (Below.refl _ _) ⟨a, d, rfl, Q⟩
            (simp only [Act.put, List.setIfInBounds_toArray, List.set_cons_succ, List.set_cons_zero] <;> rfl)
          simp only [Act.put, List.setIfInBounds_toArray, List.set_cons_succ, List.set_cons_zero]
          refine wpRel_own rfl rfl rfl (fun x hh => ?_) ?_
          · obtain ⟨a, d, f, Q⟩ := isOw_at (hh 5 (by simp)) rfl
            simp only [f]
            go_wp2
            refine relEnd_ow rfl rfl ?_ (Below.refl _ _) ⟨a, d, rfl, Q⟩
            (simp only [Act.put, List.setIfInBounds_toArray, List.set_cons_succ, List.set_cons_zero] <;> rfl)
          simp only [Act.put, List.setIfInBounds_toArray, List.set_cons_succ, List.set_cons_zero]
          (refine wpRel_purn rfl rfl (fun x hh => by ((obtain ⟨a, d, f, Q⟩ := isOw_at (hh 5 (by simp)) rfl; simp only [f]); (go_wp2); refine relEnd_pur rfl ?_ (by repeat (first | exact Below.refl _ _ | refine below_ov _ _ ?_ (by first | omega | (simp [ov_size] <;> omega)) | refine Below.alloc ?_ (by first | omega | (simp [ov_size] <;> omega)) _ | refine Below.setCell ?_ (by first | omega | (simp [ov_size] <;> omega)) _ | refine Below.drew ?_ | refine below_drewN ?_ _)); simp only [Act.put, List.setIfInBounds_toArray, List.set_cons_succ, List.set_cons_zero]; rfl)) ?_; simp only [Act.put, List.setIfInBounds_toArray, List.set_cons_succ, List.set_cons_zero])
          refine wpRel_al #[.slice none 0 0] rfl rfl rfl rfl rfl rfl (fun w => by simp [go_sem]) ?_
          simp only [Act.put, List.setIfInBounds_toArray, List.set_cons_succ, List.set_cons_zero]
          refine wpRel_so rfl rfl rfl rfl rfl rfl (by decide) (by decide) rfl rfl (by kernel_rfl) (fun w hw => by obtain ⟨a, d, f, _⟩ := hw; rw [f]; exact reg_cells _ _ _) (by repeat (first | exact all_nil | refine all_cons trivial ?_ | refine all_cons isAl_steady ?_ | refine all_cons (isOw_steady (by assumption)) ?_)) ?_
          (refine wpRel_pur rfl rfl (fun x => by ((go_wp2); refine relEnd_pur rfl ?_ (by repeat (first | exact Below.refl _ _ | refine below_ov _ _ ?_ (by first | omega | (simp [ov_size] <;> omega)) | refine Below.alloc ?_ (by first | omega | (simp [ov_size] <;> omega)) _ | refine Below.setCell ?_ (by first | omega | (simp [ov_size] <;> omega)) _ | refine Below.drew ?_ | refine below_drewN ?_ _)); simp only [Act.put, List.setIfInBounds_toArray, List.set_cons_succ, List.set_cons_zero]; rfl)) ?_; simp only [Act.put, List.setIfInBounds_toArray, List.set_cons_succ, List.set_cons_zero])
          refine wpRelE_nilB0 (fun W10 K hh => ?_)
          obtain ⟨bh, e, hb, hx⟩ := isSt_own (hh 9) rfl rfl rfl
          obtain ⟨ah, dh, f, Xh⟩ := isOw_at (hh 6) rfl
          rw [f] at hx
          simp only [e]
          have Bh := Lib.hid hx
          clear hh e f hx hb
          clear B0c0 B1c0 B1c1 B1c2 Bwc0 Bgc0 B0l B1l Bwl Bgl
          have apXwh := apart_new Xw Xh (Nat.le_refl _)
          have apYgh := apart_new Yg Xh (Nat.le_refl _)
          replace Xh := Xh.weak (B' := V.heap.size) T.size
          replace T := T.trans (K.mono T.size)
          replace B0 := box_below B0 K
          replace B1 := box_below B1 K
          replace Bw := box_below Bw K
          replace Bg := box_below Bg K
          replace Xw := Xw.below K
          replace Yg := Yg.below K
          clear K S
          have S := R.below (TV.trans (T.mono s0))
          have B0c0 := cell_blk (j := 0) (v := .slice A hs.length c) B0.out rfl
          have B0l := (Array.getElem?_eq_some_iff.1 B0.out).1
          have B1c0 := cell_blk (j := 0) (v := .int .i64 h.a) B1.out rfl
          have B1c1 := cell_blk (j := 1) (v := .int .i64 h.b) B1.out rfl
          have B1c2 := cell_blk (j := 2) (v := .int .i64 h.c) B1.out rfl
          have B1l := (Array.getElem?_eq_some_iff.1 B1.out).1
          have Bwc0 := cell_blk (j := 0) (v := .slice aw out.length dw) Bw.out rfl
          have Bwl := (Array.getElem?_eq_some_iff.1 Bw.out).1
          have Bgc0 := cell_blk (j := 0) (v := .slice ag out.length dg) Bg.out rfl
          have Bgl := (Array.getElem?_eq_some_iff.1 Bg.out).1
          have Bhc0 := cell_blk (j := 0) (v := .slice ah out.length dh) Bh.out rfl
          have Bhl := (Array.getElem?_eq_some_iff.1 Bh.out).1
          go_wp2_with (first | (go_at_call 21; (first | (with_reducible refine (calls_ov2 (heldRegion_any (by first | exact ((Yg.below (by repeat (first | exact Below.refl _ _ | refine below_ov _ _ ?_ (by first | omega | (simp [ov_size] <;> omega)) | refine Below.alloc ?_ (by first | omega | (simp [ov_size] <;> omega)) _ | refine Below.setCell ?_ (by first | omega | (simp [ov_size] <;> omega)) _ | refine Below.drew ?_ | refine below_drewN ?_ _))).r3) | exact Yg.r3) (by omega))).mono ?_) | refine (calls_ov (heldRegion_any (by first | exact ((Yg.below (by repeat (first | exact Below.refl _ _ | refine below_ov _ _ ?_ (by first | omega | (simp [ov_size] <;> omega)) | refine Below.alloc ?_ (by first | omega | (simp [ov_size] <;> omega)) _ | refine Below.setCell ?_ (by first | omega | (simp [ov_size] <;> omega)) _ | refine Below.drew ?_ | refine below_drewN ?_ _))).r3) | exact Yg.r3) (by omega))).mono ?_); rintro e w' ⟨rfl, x, rfl⟩) | (go_at_call 19; (first | (with_reducible refine (calls_ov2 (eqRegion_same (by first | exact ((Xh.below (by repeat (first | exact Below.refl _ _ | refine below_ov _ _ ?_ (by first | omega | (simp [ov_size] <;> omega)) | refine Below.alloc ?_ (by first | omega | (simp [ov_size] <;> omega)) _ | refine Below.setCell ?_ (by first | omega | (simp [ov_size] <;> omega)) _ | refine Below.drew ?_ | refine below_drewN ?_ _))).r3) | exact Xh.r3) (by first | exact ((Xw.below (by repeat (first | exact Below.refl _ _ | refine below_ov _ _ ?_ (by first | omega | (simp [ov_size] <;> omega)) | refine Below.alloc ?_ (by first | omega | (simp [ov_size] <;> omega)) _ | refine Below.setCell ?_ (by first | omega | (simp [ov_size] <;> omega)) _ | refine Below.drew ?_ | refine below_drewN ?_ _))).r3) | exact Xw.r3) (by omega))).mono ?_) | refine (calls_ov (eqRegion_same (by first | exact ((Xh.below (by repeat (first | exact Below.refl _ _ | refine below_ov _ _ ?_ (by first | omega | (simp [ov_size] <;> omega)) | refine Below.alloc ?_ (by first | omega | (simp [ov_size] <;> omega)) _ | refine Below.setCell ?_ (by first | omega | (simp [ov_size] <;> omega)) _ | refine Below.drew ?_ | refine below_drewN ?_ _))).r3) | exact Xh.r3) (by first | exact ((Xw.below (by repeat (first | exact Below.refl _ _ | refine below_ov _ _ ?_ (by first | omega | (simp [ov_size] <;> omega)) | refine Below.alloc ?_ (by first | omega | (simp [ov_size] <;> omega)) _ | refine Below.setCell ?_ (by first | omega | (simp [ov_size] <;> omega)) _ | refine Below.drew ?_ | refine below_drewN ?_ _))).r3) | exact Xw.r3) (by omega))).mono ?_); rintro e w' ⟨rfl, x, rfl⟩))
          go_ret
          exact ⟨rfl, (by repeat (first | exact TV.trans (T.mono s0) | refine below_ov _ _ ?_ (by first | omega | (simp [ov_size] <;> omega)) | refine Below.alloc ?_ (by first | omega | (simp [ov_size] <;> omega)) _ | refine Below.setCell ?_ (by first | omega | (simp [ov_size] <;> omega)) _ | refine Below.drew ?_ | refine below_drewN ?_ _))⟩
        case' hsth => exact (by repeat (first | exact all_nil | refine all_cons trivial ?_ | refine all_cons isAl_stable ?_ | refine all_cons isSt_stable ?_ | refine all_cons isStB_stable ?_ | refine all_cons (isOw_stable (by assumption)) ?_))
      case' hste => exact (by repeat (first | exact all_nil | refine all_cons trivial ?_ | refine all_cons isAl_stable ?_ | refine all_cons isSt_stable ?_ | refine all_cons isStB_stable ?_ | refine all_cons (isOw_stable (by assumption)) ?_))
    case' hstg => exact (by repeat (first | exact all_nil | refine all_cons trivial ?_ | refine all_cons isAl_stable ?_ | refine all_cons isSt_stable ?_ | refine all_cons isStB_stable ?_ | refine all_cons (isOw_stable (by assumption)) ?_))
  case' hstw => exact (by repeat (first | exact all_nil | refine all_cons trivial ?_ | refine all_cons isAl_stable ?_ | refine all_cons isSt_stable ?_ | refine all_cons isStB_stable ?_ | refine all_cons (isOw_stable (by assumption)) ?_))
set_option maxRecDepth 100000 in
theorem FnExactCutRegion_lifted (os : Os) (started : os.Started) (H : Type) (enc : TypeId × Value → H) :
    ReturnsInHanded {} Try.checked os 4 .any (Rows.fnExactCutRegionSpec.pre6 enc Try.prog Try.f4 Rows.fnExactCutRegionRow.domain false) (Rows.fnExactCutRegionSpec.post enc Try.prog Try.f4 false true false false) := by
  refine returnsInHanded_of_change (C := Try.checked) own started (by kernel_rfl) Try.func4
    (ChangeSpec.witness6 (enc := enc) (C := Try.checked) false ⟨#[], #[.agg #[.slice none 0 0], .agg #[.int .i64 0, .int .i64 0, .int .i64 0]], []⟩ 8 (by kernel_rfl) (by kernel_rfl) (by kernel_rfl) (by kernel_rfl)) ?_
  intro W base args ds gs before hval0 hW hcnd _
  have hval : ∀ (j : Nat) t v, Try.f4.params[j]? = some t → args[j]? = some v → Value.okWide Try.prog W .any base t v := hval0
  have hW' := hW
  obtain ⟨p, q, hA0, hV, rfl, hfz, hnd⟩ := hW
  have hA : DataW.TrodAll enc Try.prog W 0 (fun _ => true) true Try.f4.params.toList args.toList ds p := hA0
  rw [Try.params4] at hA hval
  obtain ⟨v0, vs0, d0, ds0, p0, q0, hargs0, rfl, rfl, h0, r0⟩ := trodAll_cons hA
  obtain ⟨v1, vs1, d1, ds1, p1, q1, hargs1, rfl, rfl, h1, r1⟩ := trodAll_cons r0
  obtain ⟨rfl, rfl, rfl⟩ := trodAll_nil r1
  obtain rfl : args = #[v0, v1] := by cases args; simp_all
  obtain ⟨rfl, rfl⟩ := trodVars_none hV
  have k0 := h0
  have lt0 : ∀ x ∈ p0, x.block < W.heap.size := by obtain ⟨m, hm⟩ := k0; exact DataW.trod_lt m _ _ _ hm
  have k1 := h1
  have lt1 : ∀ x ∈ p1, x.block < W.heap.size := by obtain ⟨m, hm⟩ := k1; exact DataW.trod_lt m _ _ _ hm
  have hv0 := hval 0 24 v0 rfl rfl
  have hv1 := hval 1 36 v1 rfl rfl
  obtain ⟨A, c, hs, rfl, RR, hlen⟩ := open_region hv0 h0
  obtain ⟨g, rfl, _⟩ := open_half hv1 h1
  clear hA0 hval0
  refine (law14_any W RR hlen).mono fun e W' ⟨he, bel⟩ => ?_
  subst he
  exact ⟨_, rfl, _, _, _, [], _, [], hW', trodAll_mk1 (shut_bool Try.underlying4 _), (trodAll_cons_mk (Below.trod laidOut (by kernel_rfl) (of_decide_eq_true (by kernel_rfl)) k0 bel lt0) (trodAll_cons_mk (Below.trod laidOut (by kernel_rfl) (of_decide_eq_true (by kernel_rfl)) k1 bel lt1) trodAll_mk0)), rfl, bel.frame _, fun h => by cases h⟩

theorem FnExactCutRegion_holds : Rows.FnExactCutRegionSaid :=
  OpenClaim.holds_of_wide 4 Try.f4 rfl rfl rfl rfl rfl rfl rfl ⟨rfl, rfl, rfl, rfl, rfl⟩ rfl rfl rfl rfl rfl (by kernel_rfl) Try.func4 (by kernel_rfl)
    (of_decide_eq_true (by kernel_rfl)) (by unfold Func.isWrapper; first | (rw [if_pos (by decide +kernel)]; kernel_rfl) | (rw [if_neg (by decide +kernel)]; exact ⟨rfl, rfl⟩))
    (fun os started H enc _ => FnExactCutRegion_lifted os started H enc)
#print axioms FnExactCutRegion_holds

end Go.Proofs.Ytnenlgaafiifpaa
