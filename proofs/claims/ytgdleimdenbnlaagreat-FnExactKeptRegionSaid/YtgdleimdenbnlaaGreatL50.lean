/- FnExactKeptRegion returns true for every argument, and leaves it as it was. No condition. -/
import Derived.Test.YtgdleimdenbnlaaGreatQg2
set_option linter.unusedVariables false
set_option linter.unusedSimpArgs false
set_option linter.unusedSectionVars false
namespace Go.Proofs.YtgdleimdenbnlaaGreat
open Go.ChangeShapes Go.WideShapes Go.ChangeAt Go.RowKit Go.Joins

set_option maxRecDepth 100000 in
set_option maxHeartbeats 8000000 in
theorem law50_any {rr : RoomV} {Arr1 Arr2 Arr3 : Option Addr} {crr1 crr2 crr3 : Nat} (w : World) (Rrr : RLM w rr Arr1 Arr2 Arr3) (hlrr : rr.InL) :
    Calls Tryz.prog 10 #[.agg #[.slice Arr1 rr.m.length crr1, .int .i64 rr.q, .int .i64 rr.bx, .int .i64 rr.by_, .int .i64 rr.lo, .int .i64 rr.hi, .slice Arr2 rr.ns.length crr2, .slice Arr3 rr.ls.length crr3]] w fun e w' => e = .returned (.bool true) ∧ Below w.heap.size w w' := by
  obtain ⟨zrr, hzrr⟩ : ∃ z, szRm rr (1048576 : Int) = z := ⟨_, rfl⟩
  have HZrr := Lib.hid hzrr
  by_cases hcrr : zrr < 0
  · clear hzrr
    go_enter Tryz.func10, Tryz.ntmps10
    go_wp2_with (first | (go_at_call 14; (first | (with_reducible refine (calls_ov2 (szRoom_eq HZrr hlrr ⟨by omega, by omega⟩)).mono ?_) | refine (calls_ov (szRoom_eq HZrr hlrr ⟨by omega, by omega⟩)).mono ?_); rintro e w' ⟨rfl, x, rfl⟩))
    go_ret
    exact ⟨rfl, (by repeat (first | exact bR | refine bO ?_ | refine bA ?_ | refine bS ?_ | refine bD ?_ | refine bN ?_))⟩
  have hmrr := szRm_bd hzrr (by omega) (by omega)
  have hmmrr := hmrr.1
  have hmnrr := hmrr.2.1
  have hmlrr := hmrr.2.2.1
  have hzbrr := hmrr.2.2.2
  have hsrr : rr.Short := ⟨hmmrr, hmnrr, hmlrr⟩
  clear hmrr
  obtain ⟨⟨out, ok⟩, hr⟩ : ∃ r, keptR rr = r := ⟨_, rfl⟩
  have ho := keptR_short hr
  have HR := Lib.hid hr
  have ORrr0 := owned_room (T := 37) (by decide) (by decide) rr
  have ORrr1 := owned_room (T := 39) (by decide) (by decide) rr
  have OO := owned_reg out
  have OT := owned_tup out ok
  clear hr hzrr
  have hne : (ok != ok) = false := by simp
  go_enter Tryz.func10, Tryz.ntmps10
  go_wp2_with (first | (go_at_call 14; (first | (with_reducible refine (calls_ov2 (szRoom_eq HZrr hlrr ⟨by omega, by omega⟩)).mono ?_) | refine (calls_ov (szRoom_eq HZrr hlrr ⟨by omega, by omega⟩)).mono ?_); rintro e w' ⟨rfl, x, rfl⟩))
  obtain ⟨V, hV⟩ : ∃ V, (w.alloc (.cells #[.slice Arr1 rr.m.length crr1, .int .i64 rr.q, .int .i64 rr.bx, .int .i64 rr.by_, .int .i64 rr.lo, .int .i64 rr.hi, .slice Arr2 rr.ns.length crr2, .slice Arr3 rr.ls.length crr3] 27)) = V := ⟨_, rfl⟩
  have TV : Below w.heap.size w V := by rw [← hV]; exact (by repeat (first | exact bR | refine bO ?_ | refine bA ?_ | refine bS ?_ | refine bD ?_ | refine bN ?_))
  have X0 : V.heap[w.heap.size]? = some (.cells #[.slice Arr1 rr.m.length crr1, .int .i64 rr.q, .int .i64 rr.bx, .int .i64 rr.by_, .int .i64 rr.lo, .int .i64 rr.hi, .slice Arr2 rr.ns.length crr2, .slice Arr3 rr.ls.length crr3] 27 (0, 0)) := by rw [← hV]; exact (heap_new_at (by simp) rfl)
  rw [hV]
  clear hV
  obtain ⟨W0, hW⟩ : ∃ W0, W0 = ov V x := ⟨_, rfl⟩
  rw [← hW]
  have T : Below V.heap.size V W0 := by rw [hW]; exact (by repeat (first | exact bR | refine bO ?_ | refine bA ?_ | refine bS ?_ | refine bD ?_ | refine bN ?_))
  clear hW
  have Brr := box_below (Lib.hid X0) T
  clear X0
  have s0 : w.heap.size ≤ V.heap.size := TV.size
  have Srr := Rrr.below (TV.trans (T.mono s0))
  refine (toRoom_any rr (Srr.below (by repeat (first | exact bR | refine bO ?_ | refine bA ?_ | refine bS ?_ | refine bD ?_ | refine bN ?_))) hsrr).mono ?_
  rintro e W1 ⟨aXurri, durr1, aurrn, durr2, aurrl, durr3, rfl, Xurr, hb⟩
  obtain ⟨loXurri, Xurri, Xurrn, Xurrl, apXurrnXurrl⟩ := Xurr
  replace loXurri : V.heap.size ≤ aXurri := by have := T.size; (try simp [ov_size] at loXurri); omega
  replace Xurrn := Xurrn.weak (B' := V.heap.size) (by have := T.size; (try simp [ov_size]); omega)
  replace Xurrl := Xurrl.weak (B' := V.heap.size) (by have := T.size; (try simp [ov_size]); omega)
  have K : Below W0.heap.size W0 W1 := Below.trans (by repeat (first | exact bR | refine bO ?_ | refine bA ?_ | refine bS ?_ | refine bD ?_ | refine bN ?_)) (hb.mono (by first | exact Nat.le_refl _ | simp [ov_size]))
  clear hb
  replace T := T.trans (K.mono T.size)
  replace Brr := box_below Brr K
  clear K Srr
  have Srr := Rrr.below (TV.trans (T.mono s0))
  obtain ⟨Brrc0, Brrc1, Brrc2, Brrc3, Brrc4, Brrc5, Brrc6, Brrc7, Brrl⟩ := cb8 Brr
  go_wp2_with fail
  clear Brrc0 Brrc1 Brrc2 Brrc3 Brrc4 Brrc5 Brrc6 Brrc7 Brrl
  refine (spec_KeptRegion_eq (RM.below ⟨Xurri.ri, Xurrn.r3, Xurrl.r3⟩ (by repeat (first | exact bR | refine bO ?_ | refine bA ?_ | refine bS ?_ | refine bD ?_ | refine bN ?_))) hsrr HR).mono ?_
  rintro e W2 ⟨aw, dw, rfl, Xw, hb⟩
  have apXurrnXw := apart_new Xurrn Xw (by first | exact Nat.le_refl _ | (simp [ov_size]) | (simp [ov_size]; omega))
  have apXurrlXw := apart_new Xurrl Xw (by first | exact Nat.le_refl _ | (simp [ov_size]) | (simp [ov_size]; omega))
  replace Xw := Xw.weak (B' := V.heap.size) (by have := T.size; (try simp [ov_size]); omega)
  have K : Below W1.heap.size W1 W2 := Below.trans (by repeat (first | exact bR | refine bO ?_ | refine bA ?_ | refine bS ?_ | refine bD ?_ | refine bN ?_)) (hb.mono (by first | exact Nat.le_refl _ | simp [ov_size]))
  clear hb
  replace T := T.trans (K.mono T.size)
  replace Brr := box_below Brr K
  replace Xurri := Xurri.below K
  replace Xurrn := Xurrn.below K
  replace Xurrl := Xurrl.below K
  clear K Srr
  have Srr := Rrr.below (TV.trans (T.mono s0))
  clear Xurri
  clear Xurrn
  clear Xurrl
  obtain ⟨Brrc0, Brrc1, Brrc2, Brrc3, Brrc4, Brrc5, Brrc6, Brrc7, Brrl⟩ := cb8 Brr
  go_wp2_with fail
  clear Brrc0 Brrc1 Brrc2 Brrc3 Brrc4 Brrc5 Brrc6 Brrc7 Brrl
  obtain ⟨bw, hbx⟩ : ∃ b, b = W2.heap.size := ⟨_, rfl⟩
  rw [← hbx]
  obtain ⟨W3, hW⟩ : ∃ W, W = W2.alloc (.cells #[.slice aw out.length dw] 37) := ⟨_, rfl⟩
  rw [← hW]
  have K : Below W2.heap.size W2 W3 := by rw [hW]; exact (by repeat (first | exact bR | refine bO ?_ | refine bA ?_ | refine bS ?_ | refine bD ?_ | refine bN ?_))
  have Bw := Lib.hid (show W3.heap[bw]? = some (.cells #[.slice aw out.length dw] 37 (0, 0)) by rw [hW, hbx]; exact heap_alloc_new _ _)
  clear hW hbx
  replace T := T.trans (K.mono T.size)
  replace Brr := box_below Brr K
  replace Xw := Xw.below K
  clear K Srr
  have Srr := Rrr.below (TV.trans (T.mono s0))
  refine (toRoom_any rr (Srr.below (by repeat (first | exact bR | refine bO ?_ | refine bA ?_ | refine bS ?_ | refine bD ?_ | refine bN ?_))) hsrr).mono ?_
  rintro e W4 ⟨aXxrri, dxrr1, axrrn, dxrr2, axrrl, dxrr3, rfl, Xxrr, hb⟩
  obtain ⟨loXxrri, Xxrri, Xxrrn, Xxrrl, apXxrrnXxrrl⟩ := Xxrr
  have apXwXxrrn := apart_new Xw Xxrrn (by first | exact Nat.le_refl _ | (simp [ov_size]) | (simp [ov_size]; omega))
  have apXwXxrrl := apart_new Xw Xxrrl (by first | exact Nat.le_refl _ | (simp [ov_size]) | (simp [ov_size]; omega))
  replace loXxrri : V.heap.size ≤ aXxrri := by have := T.size; (try simp [ov_size] at loXxrri); omega
  replace Xxrrn := Xxrrn.weak (B' := V.heap.size) (by have := T.size; (try simp [ov_size]); omega)
  replace Xxrrl := Xxrrl.weak (B' := V.heap.size) (by have := T.size; (try simp [ov_size]); omega)
  have K : Below W3.heap.size W3 W4 := Below.trans (by repeat (first | exact bR | refine bO ?_ | refine bA ?_ | refine bS ?_ | refine bD ?_ | refine bN ?_)) (hb.mono (by first | exact Nat.le_refl _ | simp [ov_size]))
  clear hb
  replace T := T.trans (K.mono T.size)
  replace Brr := box_below Brr K
  replace Bw := box_below Bw K
  replace Xw := Xw.below K
  clear K Srr
  have Srr := Rrr.below (TV.trans (T.mono s0))
  obtain ⟨Brrc0, Brrc1, Brrc2, Brrc3, Brrc4, Brrc5, Brrc6, Brrc7, Brrl⟩ := cb8 Brr
  obtain ⟨Bwc0, Bwl⟩ := cb1 Bw
  go_wp2_with fail
  clear Brrc0 Brrc1 Brrc2 Brrc3 Brrc4 Brrc5 Brrc6 Brrc7 Bwc0 Brrl Bwl
  obtain ⟨bxrr, hbx⟩ : ∃ b, b = W4.heap.size := ⟨_, rfl⟩
  rw [← hbx]
  obtain ⟨W5, hW⟩ : ∃ W, W = W4.alloc (.cells #[.slice (some ⟨aXxrri, 0, none⟩) rr.m.length dxrr1, .int .i64 rr.q, .int .i64 rr.bx, .int .i64 rr.by_, .int .i64 rr.lo, .int .i64 rr.hi, .slice axrrn rr.ns.length dxrr2, .slice axrrl rr.ls.length dxrr3] 39) := ⟨_, rfl⟩
  rw [← hW]
  have K : Below W4.heap.size W4 W5 := by rw [hW]; exact (by repeat (first | exact bR | refine bO ?_ | refine bA ?_ | refine bS ?_ | refine bD ?_ | refine bN ?_))
  have Bxrr := Lib.hid (show W5.heap[bxrr]? = some (.cells #[.slice (some ⟨aXxrri, 0, none⟩) rr.m.length dxrr1, .int .i64 rr.q, .int .i64 rr.bx, .int .i64 rr.by_, .int .i64 rr.lo, .int .i64 rr.hi, .slice axrrn rr.ns.length dxrr2, .slice axrrl rr.ls.length dxrr3] 39 (0, 0)) by rw [hW, hbx]; exact heap_alloc_new _ _)
  clear hW hbx
  replace T := T.trans (K.mono T.size)
  replace Brr := box_below Brr K
  replace Bw := box_below Bw K
  replace Xw := Xw.below K
  replace Xxrri := Xxrri.below K
  replace Xxrrn := Xxrrn.below K
  replace Xxrrl := Xxrrl.below K
  clear K Srr
  have Srr := Rrr.below (TV.trans (T.mono s0))
  refine (impl_KeptRegion_eq (RM.below ⟨Xxrri.ri, Xxrrn.r3, Xxrrl.r3⟩ (by repeat (first | exact bR | refine bO ?_ | refine bA ?_ | refine bS ?_ | refine bD ?_ | refine bN ?_))) hsrr HR).mono ?_
  rintro e W6 ⟨ag, dg, rfl, Xg, hb⟩
  have apXwXg := apart_new Xw Xg (by first | exact Nat.le_refl _ | (simp [ov_size]) | (simp [ov_size]; omega))
  have apXxrrnXg := apart_new Xxrrn Xg (by first | exact Nat.le_refl _ | (simp [ov_size]) | (simp [ov_size]; omega))
  have apXxrrlXg := apart_new Xxrrl Xg (by first | exact Nat.le_refl _ | (simp [ov_size]) | (simp [ov_size]; omega))
  replace Xg := Xg.weak (B' := V.heap.size) (by have := T.size; (try simp [ov_size]); omega)
  have K : Below W5.heap.size W5 W6 := Below.trans (by repeat (first | exact bR | refine bO ?_ | refine bA ?_ | refine bS ?_ | refine bD ?_ | refine bN ?_)) (hb.mono (by first | exact Nat.le_refl _ | simp [ov_size]))
  clear hb
  replace T := T.trans (K.mono T.size)
  replace Brr := box_below Brr K
  replace Bw := box_below Bw K
  replace Bxrr := box_below Bxrr K
  replace Xw := Xw.below K
  replace Xxrri := Xxrri.below K
  replace Xxrrn := Xxrrn.below K
  replace Xxrrl := Xxrrl.below K
  clear K Srr
  have Srr := Rrr.below (TV.trans (T.mono s0))
  obtain ⟨Brrc0, Brrc1, Brrc2, Brrc3, Brrc4, Brrc5, Brrc6, Brrc7, Brrl⟩ := cb8 Brr
  obtain ⟨Bwc0, Bwl⟩ := cb1 Bw
  obtain ⟨Bxrrc0, Bxrrc1, Bxrrc2, Bxrrc3, Bxrrc4, Bxrrc5, Bxrrc6, Bxrrc7, Bxrrl⟩ := cb8 Bxrr
  go_wp2_with fail
  clear Brrc0 Brrc1 Brrc2 Brrc3 Brrc4 Brrc5 Brrc6 Brrc7 Bwc0 Bxrrc0 Bxrrc1 Bxrrc2 Bxrrc3 Bxrrc4 Bxrrc5 Bxrrc6 Bxrrc7 Brrl Bwl Bxrrl
  obtain ⟨bg, hbx⟩ : ∃ b, b = W6.heap.size := ⟨_, rfl⟩
  rw [← hbx]
  obtain ⟨W7, hW⟩ : ∃ W, W = W6.alloc (.cells #[.slice ag out.length dg] 37) := ⟨_, rfl⟩
  rw [← hW]
  have K : Below W6.heap.size W6 W7 := by rw [hW]; exact (by repeat (first | exact bR | refine bO ?_ | refine bA ?_ | refine bS ?_ | refine bD ?_ | refine bN ?_))
  have Bg := Lib.hid (show W7.heap[bg]? = some (.cells #[.slice ag out.length dg] 37 (0, 0)) by rw [hW, hbx]; exact heap_alloc_new _ _)
  clear hW hbx
  replace T := T.trans (K.mono T.size)
  replace Brr := box_below Brr K
  replace Bw := box_below Bw K
  replace Bxrr := box_below Bxrr K
  replace Xw := Xw.below K
  replace Xxrri := Xxrri.below K
  replace Xxrrn := Xxrrn.below K
  replace Xxrrl := Xxrrl.below K
  replace Xg := Xg.below K
  clear K Srr
  have Srr := Rrr.below (TV.trans (T.mono s0))
  refine (calls_ov (eqRegion_same (by exact (Xg.below (by repeat (first | exact bR | refine bO ?_ | refine bA ?_ | refine bS ?_ | refine bD ?_ | refine bN ?_))).r3) (by exact (Xw.below (by repeat (first | exact bR | refine bO ?_ | refine bA ?_ | refine bS ?_ | refine bD ?_ | refine bN ?_))).r3) (by omega))).mono ?_
  rintro e w' ⟨rfl, x, rfl⟩
  obtain ⟨W8, hW⟩ : ∃ W8, W8 = ov W7 x := ⟨_, rfl⟩
  rw [← hW]
  have K : Below W7.heap.size W7 W8 := by rw [hW]; exact (by repeat (first | exact bR | refine bO ?_ | refine bA ?_ | refine bS ?_ | refine bD ?_ | refine bN ?_))
  clear hW
  replace T := T.trans (K.mono T.size)
  replace Brr := box_below Brr K
  replace Bw := box_below Bw K
  replace Bxrr := box_below Bxrr K
  replace Bg := box_below Bg K
  replace Xw := Xw.below K
  replace Xxrri := Xxrri.below K
  replace Xxrrn := Xxrrn.below K
  replace Xxrrl := Xxrrl.below K
  replace Xg := Xg.below K
  clear K Srr
  have Srr := Rrr.below (TV.trans (T.mono s0))
  obtain ⟨Brrc0, Brrc1, Brrc2, Brrc3, Brrc4, Brrc5, Brrc6, Brrc7, Brrl⟩ := cb8 Brr
  obtain ⟨Bwc0, Bwl⟩ := cb1 Bw
  obtain ⟨Bxrrc0, Bxrrc1, Bxrrc2, Bxrrc3, Bxrrc4, Bxrrc5, Bxrrc6, Bxrrc7, Bxrrl⟩ := cb8 Bxrr
  obtain ⟨Bgc0, Bgl⟩ := cb1 Bg
  go_wp2_with fail
  clear Brrc0 Brrc1 Brrc2 Brrc3 Brrc4 Brrc5 Brrc6 Brrc7 Bwc0 Bxrrc0 Bxrrc1 Bxrrc2 Bxrrc3 Bxrrc4 Bxrrc5 Bxrrc6 Bxrrc7 Bgc0 Brrl Bwl Bxrrl Bgl
  obtain ⟨Brrc0, Brrc1, Brrc2, Brrc3, Brrc4, Brrc5, Brrc6, Brrc7, Brrl⟩ := cb8 Brr
  obtain ⟨Bwc0, Bwl⟩ := cb1 Bw
  obtain ⟨Bxrrc0, Bxrrc1, Bxrrc2, Bxrrc3, Bxrrc4, Bxrrc5, Bxrrc6, Bxrrc7, Bxrrl⟩ := cb8 Bxrr
  obtain ⟨Bgc0, Bgl⟩ := cb1 Bg
  refine wp_region_rel [.pur [] ?d1c0, .pur [] ?d1c1, .rel [] [2] false (IsOw (GRoom rr)), .pur [2] ?d1c3, .pur [] ?d1c4] _ rfl rfl (by kernel_rfl) (by kernel_rfl) ?hstd1 (fun vs => ?walkd1)
  case' walkd1 =>
    (refine wpRel_pur rfl rfl (fun x => by ((go_wp2); refine relEnd_pur rfl ?_ (by repeat (first | exact bR | refine bO ?_ | refine bA ?_ | refine bS ?_ | refine bD ?_ | refine bN ?_)); simp only [Act.put, List.setIfInBounds_toArray, List.set_cons_succ, List.set_cons_zero]; rfl)) ?_; simp only [Act.put, List.setIfInBounds_toArray, List.set_cons_succ, List.set_cons_zero])
    (refine wpRel_pur rfl rfl (fun x => by ((go_wp2); refine relEnd_pur rfl ?_ (by repeat (first | exact bR | refine bO ?_ | refine bA ?_ | refine bS ?_ | refine bD ?_ | refine bN ?_)); simp only [Act.put, List.setIfInBounds_toArray, List.set_cons_succ, List.set_cons_zero]; rfl)) ?_; simp only [Act.put, List.setIfInBounds_toArray, List.set_cons_succ, List.set_cons_zero])
    refine wpRel_own rfl rfl rfl (fun x hh => ?_) ?_
    · go_wp2_with fail
      refine (toRoom_any rr (Srr.below (by repeat (first | exact bR | refine bO ?_ | refine bA ?_ | refine bS ?_ | refine bD ?_ | refine bN ?_))) hsrr).mono ?_
      rintro e w7 ⟨a71, d71, a72, d72, a73, d73, rfl, Q7, hb7⟩
      go_wp2
      refine relEnd_ow rfl rfl ?_ hb7 ⟨a71, d71, a72, d72, a73, d73, rfl, Q7.weak (by rw [ov_size]; omega)⟩
      (simp only [Act.put, List.setIfInBounds_toArray, List.set_cons_succ, List.set_cons_zero] <;> rfl)
    simp only [Act.put, List.setIfInBounds_toArray, List.set_cons_succ, List.set_cons_zero]
    (refine wpRel_purn rfl rfl (fun x hh => by ((obtain ⟨ao21, do21, ao22, do22, ao23, do23, f2, Qo2⟩ := isOw_at (hh 2 (by simp)) rfl; simp only [f2]); (go_wp2_with (first | (go_at_call 22; refine (calls_ov (eqRoom_same (by exact RM.below ⟨Xxrri.ri, Xxrrn.r3, Xxrrl.r3⟩ (by repeat (first | exact bR | refine bO ?_ | refine bA ?_ | refine bS ?_ | refine bD ?_ | refine bN ?_))) (by first | exact (Qo2.below (by repeat (first | exact bR | refine bO ?_ | refine bA ?_ | refine bS ?_ | refine bD ?_ | refine bN ?_))).rm | exact Qo2.rm) hsrr)).mono ?_; rintro e w' ⟨rfl, x, rfl⟩))); refine relEnd_pur rfl ?_ (by repeat (first | exact bR | refine bO ?_ | refine bA ?_ | refine bS ?_ | refine bD ?_ | refine bN ?_)); simp only [Act.put, List.setIfInBounds_toArray, List.set_cons_succ, List.set_cons_zero]; rfl)) ?_; simp only [Act.put, List.setIfInBounds_toArray, List.set_cons_succ, List.set_cons_zero])
    (refine wpRel_pur rfl rfl (fun x => by ((go_wp2); refine relEnd_pur rfl ?_ (by repeat (first | exact bR | refine bO ?_ | refine bA ?_ | refine bS ?_ | refine bD ?_ | refine bN ?_)); simp only [Act.put, List.setIfInBounds_toArray, List.set_cons_succ, List.set_cons_zero]; rfl)) ?_; simp only [Act.put, List.setIfInBounds_toArray, List.set_cons_succ, List.set_cons_zero])
    refine wpRelE_nilB0 (fun W9 K hh => ?_)
    clear hh
    clear Brrc0 Brrc1 Brrc2 Brrc3 Brrc4 Brrc5 Brrc6 Brrc7 Bwc0 Bxrrc0 Bxrrc1 Bxrrc2 Bxrrc3 Bxrrc4 Bxrrc5 Bxrrc6 Bxrrc7 Bgc0 Brrl Bwl Bxrrl Bgl
    replace T := T.trans (K.mono T.size)
    replace Brr := box_below Brr K
    replace Bw := box_below Bw K
    replace Bxrr := box_below Bxrr K
    replace Bg := box_below Bg K
    replace Xw := Xw.below K
    replace Xxrri := Xxrri.below K
    replace Xxrrn := Xxrrn.below K
    replace Xxrrl := Xxrrl.below K
    replace Xg := Xg.below K
    clear K Srr
    have Srr := Rrr.below (TV.trans (T.mono s0))
    obtain ⟨Brrc0, Brrc1, Brrc2, Brrc3, Brrc4, Brrc5, Brrc6, Brrc7, Brrl⟩ := cb8 Brr
    obtain ⟨Bwc0, Bwl⟩ := cb1 Bw
    obtain ⟨Bxrrc0, Bxrrc1, Bxrrc2, Bxrrc3, Bxrrc4, Bxrrc5, Bxrrc6, Bxrrc7, Bxrrl⟩ := cb8 Bxrr
    obtain ⟨Bgc0, Bgl⟩ := cb1 Bg
    go_wp2_with fail
    clear Brrc0 Brrc1 Brrc2 Brrc3 Brrc4 Brrc5 Brrc6 Brrc7 Bwc0 Bxrrc0 Bxrrc1 Bxrrc2 Bxrrc3 Bxrrc4 Bxrrc5 Bxrrc6 Bxrrc7 Bgc0 Brrl Bwl Bxrrl Bgl
    refine (markRoom_any (r := rr) (Xxrri.below (by repeat (first | exact bR | refine bO ?_ | refine bA ?_ | refine bS ?_ | refine bD ?_ | refine bN ?_))) (Xxrrn.below (by repeat (first | exact bR | refine bO ?_ | refine bA ?_ | refine bS ?_ | refine bD ?_ | refine bN ?_))) (Xxrrl.below (by repeat (first | exact bR | refine bO ?_ | refine bA ?_ | refine bS ?_ | refine bD ?_ | refine bN ?_))) apXxrrnXxrrl hsrr ⟨by omega, by omega⟩).mono ?_
    rintro e W10 ⟨rfl, ⟨W11, W12, hg1, hg2, hg3⟩⟩
    have K : W9.grownBy W11 _ := grown_pre (by exact (by repeat (first | exact bR | refine bO ?_ | refine bA ?_ | refine bS ?_ | refine bD ?_ | refine bN ?_))) hg1
    clear hg1
    replace T := grown_below (v := .slice (some ⟨aXxrri, 0, none⟩) 0 0) T K (fun k hk => by have hk : some aXxrri = some k := hk; injection hk with hk; have := loXxrri; omega) (Nat.le_refl _)
    replace Brr := box_grown_i Brr K (Xxrri.ne Brr.out (by decide))
    replace Bw := box_grown_i Bw K (Xxrri.ne Bw.out (by decide))
    replace Bxrr := box_grown_i Bxrr K (Xxrri.ne Bxrr.out (by decide))
    replace Bg := box_grown_i Bg K (Xxrri.ne Bg.out (by decide))
    replace Xw := Xw.grown_i K (Xxrri.apart Xw (by decide))
    replace Xxrrn := Xxrrn.grown_i K (Xxrri.apart Xxrrn (by decide))
    replace Xxrrl := Xxrrl.grown_i K (Xxrri.apart Xxrrl (by decide))
    replace Xg := Xg.grown_i K (Xxrri.apart Xg (by decide))
    clear K Xxrri
    have K := hg2
    clear hg2
    replace T := grown_below T K (fun k hk => (Xxrrn.lt k hk).1) (Nat.le_refl _)
    replace Brr := box_grown Brr K (Xxrrn.ne_box Brr.out (by decide))
    replace Bw := box_grown Bw K (Xxrrn.ne_box Bw.out (by decide))
    replace Bxrr := box_grown Bxrr K (Xxrrn.ne_box Bxrr.out (by decide))
    replace Bg := box_grown Bg K (Xxrrn.ne_box Bg.out (by decide))
    replace Xw := Xw.grown Xxrrn K apXwXxrrn.symm
    replace Xxrrl := Xxrrl.grown Xxrrn K apXxrrnXxrrl
    replace Xg := Xg.grown Xxrrn K apXxrrnXg
    clear K Xxrrn
    have K := hg3
    clear hg3
    replace T := grown_below T K (fun k hk => (Xxrrl.lt k hk).1) (Nat.le_refl _)
    replace Brr := box_grown Brr K (Xxrrl.ne_box Brr.out (by decide))
    replace Bw := box_grown Bw K (Xxrrl.ne_box Bw.out (by decide))
    replace Bxrr := box_grown Bxrr K (Xxrrl.ne_box Bxrr.out (by decide))
    replace Bg := box_grown Bg K (Xxrrl.ne_box Bg.out (by decide))
    replace Xw := Xw.grown Xxrrl K apXwXxrrl.symm
    replace Xg := Xg.grown Xxrrl K apXxrrlXg
    clear K Xxrrl
    clear Srr
    have Srr := Rrr.below (TV.trans (T.mono s0))
    clear Bxrr
    obtain ⟨Brrc0, Brrc1, Brrc2, Brrc3, Brrc4, Brrc5, Brrc6, Brrc7, Brrl⟩ := cb8 Brr
    obtain ⟨Bwc0, Bwl⟩ := cb1 Bw
    obtain ⟨Bgc0, Bgl⟩ := cb1 Bg
    go_wp2_with fail
    clear Brrc0 Brrc1 Brrc2 Brrc3 Brrc4 Brrc5 Brrc6 Brrc7 Bwc0 Bgc0 Brrl Bwl Bgl
    refine (calls_ov (eqRegion_same (by exact (Xg.below (by repeat (first | exact bR | refine bO ?_ | refine bA ?_ | refine bS ?_ | refine bD ?_ | refine bN ?_))).r3) (by exact (Xw.below (by repeat (first | exact bR | refine bO ?_ | refine bA ?_ | refine bS ?_ | refine bD ?_ | refine bN ?_))).r3) (by omega))).mono ?_
    rintro e w' ⟨rfl, x, rfl⟩
    obtain ⟨W13, hW⟩ : ∃ W13, W13 = ov W10 x := ⟨_, rfl⟩
    rw [← hW]
    have K : Below W10.heap.size W10 W13 := by rw [hW]; exact (by repeat (first | exact bR | refine bO ?_ | refine bA ?_ | refine bS ?_ | refine bD ?_ | refine bN ?_))
    clear hW
    replace T := T.trans (K.mono T.size)
    replace Brr := box_below Brr K
    replace Bw := box_below Bw K
    replace Bg := box_below Bg K
    replace Xw := Xw.below K
    replace Xg := Xg.below K
    clear K Srr
    have Srr := Rrr.below (TV.trans (T.mono s0))
    obtain ⟨Brrc0, Brrc1, Brrc2, Brrc3, Brrc4, Brrc5, Brrc6, Brrc7, Brrl⟩ := cb8 Brr
    obtain ⟨Bwc0, Bwl⟩ := cb1 Bw
    obtain ⟨Bgc0, Bgl⟩ := cb1 Bg
    go_wp2_with fail
    clear Brrc0 Brrc1 Brrc2 Brrc3 Brrc4 Brrc5 Brrc6 Brrc7 Bwc0 Bgc0 Brrl Bwl Bgl
    refine (markRegion_any (Xg.below (by repeat (first | exact bR | refine bO ?_ | refine bA ?_ | refine bS ?_ | refine bD ?_ | refine bN ?_))) (by omega) ⟨by omega, by omega⟩).mono ?_
    rintro e W14 ⟨rfl, Yg, hg⟩
    have K : W13.grownBy W14 _ := grown_pre (by exact (by repeat (first | exact bR | refine bO ?_ | refine bA ?_ | refine bS ?_ | refine bD ?_ | refine bN ?_))) hg
    clear hg
    replace T := grown_below T K (fun k hk => (Xg.lt k hk).1) (Nat.le_refl _)
    replace Brr := box_grown Brr K (Xg.ne_box Brr.out (by decide))
    replace Bw := box_grown Bw K (Xg.ne_box Bw.out (by decide))
    replace Bg := box_grown Bg K (Xg.ne_box Bg.out (by decide))
    replace Xw := Xw.grown Xg K apXwXg.symm
    clear K Srr Xg
    have Srr := Rrr.below (TV.trans (T.mono s0))
    obtain ⟨Brrc0, Brrc1, Brrc2, Brrc3, Brrc4, Brrc5, Brrc6, Brrc7, Brrl⟩ := cb8 Brr
    obtain ⟨Bwc0, Bwl⟩ := cb1 Bw
    obtain ⟨Bgc0, Bgl⟩ := cb1 Bg
    go_wp2_with fail
    clear Brrc0 Brrc1 Brrc2 Brrc3 Brrc4 Brrc5 Brrc6 Brrc7 Bwc0 Bgc0 Brrl Bwl Bgl
    refine (calls_ov (heldRegion_any (by exact (Yg.below (by repeat (first | exact bR | refine bO ?_ | refine bA ?_ | refine bS ?_ | refine bD ?_ | refine bN ?_))).r3) (by omega))).mono ?_
    rintro e w' ⟨rfl, x, rfl⟩
    obtain ⟨W15, hW⟩ : ∃ W15, W15 = ov W14 x := ⟨_, rfl⟩
    rw [← hW]
    have K : Below W14.heap.size W14 W15 := by rw [hW]; exact (by repeat (first | exact bR | refine bO ?_ | refine bA ?_ | refine bS ?_ | refine bD ?_ | refine bN ?_))
    clear hW
    replace T := T.trans (K.mono T.size)
    replace Brr := box_below Brr K
    replace Bw := box_below Bw K
    replace Bg := box_below Bg K
    replace Xw := Xw.below K
    replace Yg := Yg.below K
    clear K Srr
    have Srr := Rrr.below (TV.trans (T.mono s0))
    obtain ⟨Brrc0, Brrc1, Brrc2, Brrc3, Brrc4, Brrc5, Brrc6, Brrc7, Brrl⟩ := cb8 Brr
    obtain ⟨Bwc0, Bwl⟩ := cb1 Bw
    obtain ⟨Bgc0, Bgl⟩ := cb1 Bg
    go_wp2_with fail
    clear Brrc0 Brrc1 Brrc2 Brrc3 Brrc4 Brrc5 Brrc6 Brrc7 Bwc0 Bgc0 Brrl Bwl Bgl
    refine (toRoom_any rr (Srr.below (by repeat (first | exact bR | refine bO ?_ | refine bA ?_ | refine bS ?_ | refine bD ?_ | refine bN ?_))) hsrr).mono ?_
    rintro e W16 ⟨aXurri, durr1, aurrn, durr2, aurrl, durr3, rfl, Xurr, hb⟩
    obtain ⟨loXurri, Xurri, Xurrn, Xurrl, apXurrnXurrl⟩ := Xurr
    have apXwXurrn := apart_new Xw Xurrn (by first | exact Nat.le_refl _ | (simp [ov_size]) | (simp [ov_size]; omega))
    have apYgXurrn := apart_new Yg Xurrn (by first | exact Nat.le_refl _ | (simp [ov_size]) | (simp [ov_size]; omega))
    have apXwXurrl := apart_new Xw Xurrl (by first | exact Nat.le_refl _ | (simp [ov_size]) | (simp [ov_size]; omega))
    have apYgXurrl := apart_new Yg Xurrl (by first | exact Nat.le_refl _ | (simp [ov_size]) | (simp [ov_size]; omega))
    replace loXurri : V.heap.size ≤ aXurri := by have := T.size; (try simp [ov_size] at loXurri); omega
    replace Xurrn := Xurrn.weak (B' := V.heap.size) (by have := T.size; (try simp [ov_size]); omega)
    replace Xurrl := Xurrl.weak (B' := V.heap.size) (by have := T.size; (try simp [ov_size]); omega)
    have K : Below W15.heap.size W15 W16 := Below.trans (by repeat (first | exact bR | refine bO ?_ | refine bA ?_ | refine bS ?_ | refine bD ?_ | refine bN ?_)) (hb.mono (by first | exact Nat.le_refl _ | simp [ov_size]))
    clear hb
    replace T := T.trans (K.mono T.size)
    replace Brr := box_below Brr K
    replace Bw := box_below Bw K
    replace Bg := box_below Bg K
    replace Xw := Xw.below K
    replace Yg := Yg.below K
    clear K Srr
    have Srr := Rrr.below (TV.trans (T.mono s0))
    obtain ⟨Brrc0, Brrc1, Brrc2, Brrc3, Brrc4, Brrc5, Brrc6, Brrc7, Brrl⟩ := cb8 Brr
    obtain ⟨Bwc0, Bwl⟩ := cb1 Bw
    obtain ⟨Bgc0, Bgl⟩ := cb1 Bg
    go_wp2_with fail
    clear Brrc0 Brrc1 Brrc2 Brrc3 Brrc4 Brrc5 Brrc6 Brrc7 Bwc0 Bgc0 Brrl Bwl Bgl
    refine (impl_KeptRegion_eq (RM.below ⟨Xurri.ri, Xurrn.r3, Xurrl.r3⟩ (by repeat (first | exact bR | refine bO ?_ | refine bA ?_ | refine bS ?_ | refine bD ?_ | refine bN ?_))) hsrr HR).mono ?_
    rintro e W17 ⟨ah, dh, rfl, Xh, hb⟩
    have apXwXh := apart_new Xw Xh (by first | exact Nat.le_refl _ | (simp [ov_size]) | (simp [ov_size]; omega))
    have apYgXh := apart_new Yg Xh (by first | exact Nat.le_refl _ | (simp [ov_size]) | (simp [ov_size]; omega))
    have apXurrnXh := apart_new Xurrn Xh (by first | exact Nat.le_refl _ | (simp [ov_size]) | (simp [ov_size]; omega))
    have apXurrlXh := apart_new Xurrl Xh (by first | exact Nat.le_refl _ | (simp [ov_size]) | (simp [ov_size]; omega))
    replace Xh := Xh.weak (B' := V.heap.size) (by have := T.size; (try simp [ov_size]); omega)
    have K : Below W16.heap.size W16 W17 := Below.trans (by repeat (first | exact bR | refine bO ?_ | refine bA ?_ | refine bS ?_ | refine bD ?_ | refine bN ?_)) (hb.mono (by first | exact Nat.le_refl _ | simp [ov_size]))
    clear hb
    replace T := T.trans (K.mono T.size)
    replace Brr := box_below Brr K
    replace Bw := box_below Bw K
    replace Bg := box_below Bg K
    replace Xw := Xw.below K
    replace Yg := Yg.below K
    replace Xurri := Xurri.below K
    replace Xurrn := Xurrn.below K
    replace Xurrl := Xurrl.below K
    clear K Srr
    have Srr := Rrr.below (TV.trans (T.mono s0))
    clear Xurri
    clear Xurrn
    clear Xurrl
    obtain ⟨Brrc0, Brrc1, Brrc2, Brrc3, Brrc4, Brrc5, Brrc6, Brrc7, Brrl⟩ := cb8 Brr
    obtain ⟨Bwc0, Bwl⟩ := cb1 Bw
    obtain ⟨Bgc0, Bgl⟩ := cb1 Bg
    go_wp2_with fail
    clear Brrc0 Brrc1 Brrc2 Brrc3 Brrc4 Brrc5 Brrc6 Brrc7 Bwc0 Bgc0 Brrl Bwl Bgl
    obtain ⟨bh, hbx⟩ : ∃ b, b = W17.heap.size := ⟨_, rfl⟩
    rw [← hbx]
    obtain ⟨W18, hW⟩ : ∃ W, W = W17.alloc (.cells #[.slice ah out.length dh] 37) := ⟨_, rfl⟩
    rw [← hW]
    have K : Below W17.heap.size W17 W18 := by rw [hW]; exact (by repeat (first | exact bR | refine bO ?_ | refine bA ?_ | refine bS ?_ | refine bD ?_ | refine bN ?_))
    have Bh := Lib.hid (show W18.heap[bh]? = some (.cells #[.slice ah out.length dh] 37 (0, 0)) by rw [hW, hbx]; exact heap_alloc_new _ _)
    clear hW hbx
    replace T := T.trans (K.mono T.size)
    replace Brr := box_below Brr K
    replace Bw := box_below Bw K
    replace Bg := box_below Bg K
    replace Xw := Xw.below K
    replace Yg := Yg.below K
    replace Xh := Xh.below K
    clear K Srr
    have Srr := Rrr.below (TV.trans (T.mono s0))
    obtain ⟨Brrc0, Brrc1, Brrc2, Brrc3, Brrc4, Brrc5, Brrc6, Brrc7, Brrl⟩ := cb8 Brr
    obtain ⟨Bwc0, Bwl⟩ := cb1 Bw
    obtain ⟨Bgc0, Bgl⟩ := cb1 Bg
    obtain ⟨Bhc0, Bhl⟩ := cb1 Bh
    go_wp2_with (first | (go_at_call 28; (first | (with_reducible refine (calls_ov2 (heldRegion_any (by exact (Yg.below (by repeat (first | exact bR | refine bO ?_ | refine bA ?_ | refine bS ?_ | refine bD ?_ | refine bN ?_))).r3) (by omega))).mono ?_) | refine (calls_ov (heldRegion_any (by exact (Yg.below (by repeat (first | exact bR | refine bO ?_ | refine bA ?_ | refine bS ?_ | refine bD ?_ | refine bN ?_))).r3) (by omega))).mono ?_); rintro e w' ⟨rfl, x, rfl⟩) | (go_at_call 23; (first | (with_reducible refine (calls_ov2 (eqRegion_same (by exact (Xh.below (by repeat (first | exact bR | refine bO ?_ | refine bA ?_ | refine bS ?_ | refine bD ?_ | refine bN ?_))).r3) (by exact (Xw.below (by repeat (first | exact bR | refine bO ?_ | refine bA ?_ | refine bS ?_ | refine bD ?_ | refine bN ?_))).r3) (by omega))).mono ?_) | refine (calls_ov (eqRegion_same (by exact (Xh.below (by repeat (first | exact bR | refine bO ?_ | refine bA ?_ | refine bS ?_ | refine bD ?_ | refine bN ?_))).r3) (by exact (Xw.below (by repeat (first | exact bR | refine bO ?_ | refine bA ?_ | refine bS ?_ | refine bD ?_ | refine bN ?_))).r3) (by omega))).mono ?_); rintro e w' ⟨rfl, x, rfl⟩))
    go_ret
    exact ⟨rfl, (by repeat (first | exact TV.trans (T.mono s0) | refine bO ?_ | refine bA ?_ | refine bS ?_ | refine bD ?_ | refine bN ?_))⟩
  case' hstd1 => exact (by repeat (first | exact all_nil | refine all_cons trivial ?_ | refine all_cons isAl_stable ?_ | refine all_cons isSt_stable ?_ | refine all_cons isStB_stable ?_ | refine all_cons (isOw_stable (by assumption)) ?_))
set_option maxRecDepth 100000 in
theorem FnExactKeptRegion_lifted (os : Os) (started : os.Started) (H : Type) (enc : TypeId × Value → H) :
    ReturnsInHanded {} Tryz.checked os 10 .any (Rows.fnExactKeptRegionSpec.pre6 enc Tryz.prog Tryz.f10 Rows.fnExactKeptRegionRow.domain false) (Rows.fnExactKeptRegionSpec.post enc Tryz.prog Tryz.f10 false true false false) := by
  refine returnsInHanded_of_change (C := Tryz.checked) own started (by kernel_rfl) Tryz.func10
    (ChangeSpec.witness6 (enc := enc) (C := Tryz.checked) false ⟨#[], #[.agg #[.slice none 0 0, .int .i64 0, .int .i64 0, .int .i64 0, .int .i64 0, .int .i64 0, .slice none 0 0, .slice none 0 0]], []⟩ 8 (by kernel_rfl) (by kernel_rfl) (by kernel_rfl) (by kernel_rfl)) ?_
  intro W base args ds gs before hval0 hW hcnd _
  have hval : ∀ (j : Nat) t v, Tryz.f10.params[j]? = some t → args[j]? = some v → Value.okWide Tryz.prog W .any base t v := hval0
  have hW' := hW
  obtain ⟨p, q, hA0, hV, rfl, hfz, hnd⟩ := hW
  have hA : DataW.TrodAll enc Tryz.prog W 0 (fun _ => true) true Tryz.f10.params.toList args.toList ds p := hA0
  rw [Tryz.params10] at hA hval
  obtain ⟨v0, vs0, d0, ds0, p0, q0, hargs0, rfl, rfl, h0, r0⟩ := trodAll_cons hA
  obtain ⟨rfl, rfl, rfl⟩ := trodAll_nil r0
  obtain rfl : args = #[v0] := by cases args; simp_all
  obtain ⟨rfl, rfl⟩ := trodVars_none hV
  have k0 := h0
  have lt0 : ∀ x ∈ p0, x.block < W.heap.size := by obtain ⟨m, hm⟩ := k0; exact DataW.trod_lt m _ _ _ hm
  have hv0 := hval 0 27 v0 rfl rfl
  obtain ⟨r0, A01, A02, A03, c01, c02, c03, rfl, RR0, hlen0⟩ := open_room hv0 h0
  clear hA0 hval0
  refine (law50_any W RR0 hlen0).mono fun e W' ⟨he, bel⟩ => ?_
  subst he
  exact ⟨_, rfl, _, _, _, [], _, [], hW', trodAll_mk1 (shut_bool Tryz.underlying4 _), (trodAll_cons_mk (Below.trod laidOut (by kernel_rfl) (of_decide_eq_true (by kernel_rfl)) k0 bel lt0) trodAll_mk0), rfl, bel.frame _, fun h => by cases h⟩

theorem FnExactKeptRegion_holds : Rows.FnExactKeptRegionSaid :=
  OpenClaim.holds_of_wide 10 Tryz.f10 rfl rfl rfl rfl rfl rfl rfl ⟨rfl, rfl, rfl, rfl, rfl⟩ rfl rfl rfl rfl rfl (by kernel_rfl) Tryz.func10 (by kernel_rfl)
    (of_decide_eq_true (by kernel_rfl)) (by unfold Func.isWrapper; first | (rw [if_pos (by decide +kernel)]; kernel_rfl) | (rw [if_neg (by decide +kernel)]; exact ⟨rfl, rfl⟩))
    (fun os started H enc _ => FnExactKeptRegion_lifted os started H enc)
#print axioms FnExactKeptRegion_holds

end Go.Proofs.YtgdleimdenbnlaaGreat
