/- Contracts of within, IsWithin, CornersOf and IsCorner, of the program and of the reference. No condition but that lengths are ints. -/
import Derived.Test.YtgdleimdenbnlaaGreatHs
import Derived.Test.YtgdleimdenbnlaaGreatCg
set_option linter.unusedSimpArgs false
set_option linter.unusedVariables false
set_option linter.unusedSectionVars false
namespace Go.Proofs.YtgdleimdenbnlaaGreat
open Go.RowKit

theorem within_false {cs qs : List H3} {k : Nat} (hk : k < cs.length) (h : hasL qs cs[k] = false) : cs.all (hasL qs) = false := by
  rw [List.all_eq_false]; exact ⟨_, List.getElem_mem hk, by rw [h]; simp⟩
set_option maxRecDepth 100000 in
set_option maxHeartbeats 4000000 in
theorem impl_within_eq {ps qs : List H3} {v : Bool} {A1 A2 : Option Addr} {c1 c2 : Nat} {w : World} (kp : regionOk ps = true) (kq : regionOk qs = true) (R1 : R3 99 w A1 c1 ps) (R2 : R3 99 w A2 c2 qs) (hv : Hid (withinL ps qs = v)) :
    Calls Tryz.prog 85 #[.agg #[.slice A1 ps.length c1], .agg #[.slice A2 qs.length c2]] w fun e w' => e = .returned (.bool v) ∧ Below w.heap.size w w' := by
  obtain ⟨G1, l1⟩ := region_good kp
  obtain ⟨G2, l2⟩ := region_good kq
  have ks := corners_spots kp
  have hcl := cornersL_length ps
  have HV := hv.out
  unfold withinL at HV
  have hz := Lib.hid (fun h : ps = [] => (by subst h; rfl : cornersL ps = []))
  obtain ⟨cs, hcs⟩ : ∃ cs, cornersL ps = cs := ⟨_, rfl⟩
  have HC := fun W A c (R : R3 99 W A c ps) => corners_any G1 R (by omega)
  rw [hcs] at ks hcl HV hz HC
  have KS := Lib.hid ks
  have HV2 := Lib.hid HV
  have HCC := Lib.hid HC
  clear hcs ks HV hv kp kq G1 HC
  go_enter Tryz.func85, Tryz.ntmps85
  go_wp2_with fail
  refine (HCC.out _ _ _ (by repeat (first | assumption | refine R3.ov ?_ _ | refine R3.alloc ?_ _))).mono ?_
  rintro e w1 ⟨A3, c3, rfl, RS, hb1⟩
  have T0 : Below w.heap.size w w1 := Below.trans (by repeat (first | exact Below.refl _ _ | refine below_ov _ _ ?_ (by first | omega | (simp [ov_size] <;> omega)) | refine Below.alloc ?_ (by first | omega | (simp [ov_size] <;> omega)) _ | refine Below.setCell ?_ (by first | omega | (simp [ov_size] <;> omega)) _ | refine Below.drew ?_ | refine below_drewN ?_ _)) (hb1.mono (by first | omega | (simp [ov_size] <;> omega)))
  have X2 := Lib.hid ((hb1.block (w.heap.size + 1) (by first | omega | (simp [ov_size] <;> omega))).trans (heap_new_at (r := some (.cells #[.slice A2 qs.length c2] 37 (0, 0))) (by simp) rfl))
  have RW := R2.below T0
  replace RS := RS.r3
  clear hb1 R1
  have t0 := T0.size
  generalize w.heap.size + 1 = b2 at X2 ⊢
  go_wp2
  go_loopw [10] (fun i wr => ∃ k : Nat, k ≤ ps.length ∧ i = .int .i64 k ∧ Hid ((cs.take k).all (hasL qs) = true) ∧ Below w1.heap.size w1 wr) (fun i _ => ps.length - (intOf i).toNat)
  case atStart => exact ⟨0, Nat.zero_le _, rfl, Lib.hid rfl, Below.refl _ _⟩
  case round =>
    obtain ⟨k, hk, rfl, HA, hb⟩ := hrel
    have hbs := hb.size
    have hbw : Below w.heap.size w wr := T0.trans (hb.mono t0)
    have X3 := box_below X2 hb
    have x1 := cell_blk (j := 0) (v := .slice A2 qs.length c2) X3.out rfl
    have lx := (Array.getElem?_eq_some_iff.1 X3.out).1
    by_cases hlt : k < ps.length
    · have hlc : k < cs.length := by omega
      obtain ⟨g0, rfl, hg0, z0, z1, z2⟩ := (RS.below hb).at_ hlc
      have kc := KS.out _ (List.getElem_mem hlc)
      obtain ⟨u, hu⟩ : ∃ u, hasL qs cs[k] = u := ⟨_, rfl⟩
      have HU := Lib.hid hu
      have HT := Lib.hid (all_take_succ (hasL qs) cs k hlc)
      have RQ := RW.below hb
      cases u with
      | false =>
        obtain rfl : v = false := by rw [← HV2.out]; exact within_false hlc hu
        clear hu
        go_wp2_with ((go_at_call 67; (first | (with_reducible refine (calls_ov2 (holds_eq G2 kc (by repeat (first | assumption | refine R3.ov ?_ _ | refine R3.alloc ?_ _)) (by omega) HU)).mono ?_) | refine (calls_ov (holds_eq G2 kc (by repeat (first | assumption | refine R3.ov ?_ _ | refine R3.alloc ?_ _)) (by omega) HU)).mono ?_); rintro e w' ⟨rfl, x, rfl⟩))
        go_ret
        exact ⟨rfl, (by repeat (first | exact hbw | refine below_ov _ _ ?_ (by first | omega | (simp [ov_size] <;> omega)) | refine Below.alloc ?_ (by first | omega | (simp [ov_size] <;> omega)) _ | refine Below.setCell ?_ (by first | omega | (simp [ov_size] <;> omega)) _ | refine Below.drew ?_ | refine below_drewN ?_ _))⟩
      | true =>
        have HN : Hid ((cs.take (k + 1)).all (hasL qs) = true) := Lib.hid (by rw [HT.out, HA.out, hu]; rfl)
        clear hu
        go_wp2_with ((go_at_call 67; (first | (with_reducible refine (calls_ov2 (holds_eq G2 kc (by repeat (first | assumption | refine R3.ov ?_ _ | refine R3.alloc ?_ _)) (by omega) HU)).mono ?_) | refine (calls_ov (holds_eq G2 kc (by repeat (first | assumption | refine R3.ov ?_ _ | refine R3.alloc ?_ _)) (by omega) HU)).mono ?_); rintro e w' ⟨rfl, x, rfl⟩))
        go_roundw
        case rel => exact ⟨k + 1, by omega, by go_num, HN, (by repeat (first | exact hb | refine below_ov _ _ ?_ (by first | omega | (simp [ov_size] <;> omega)) | refine Below.alloc ?_ (by first | omega | (simp [ov_size] <;> omega)) _ | refine Below.setCell ?_ (by first | omega | (simp [ov_size] <;> omega)) _ | refine Below.drew ?_ | refine below_drewN ?_ _))⟩
        case measure => simp [intOf] <;> omega
    · obtain rfl : k = ps.length := by omega
      obtain rfl : v = true := by rw [← HV2.out, ← HA.out, ← hcl, List.take_length]
      go_wp2
      go_ret
      exact ⟨rfl, (by repeat (first | exact hbw | refine below_ov _ _ ?_ (by first | omega | (simp [ov_size] <;> omega)) | refine Below.alloc ?_ (by first | omega | (simp [ov_size] <;> omega)) _ | refine Below.setCell ?_ (by first | omega | (simp [ov_size] <;> omega)) _ | refine Below.drew ?_ | refine below_drewN ?_ _))⟩
set_option maxRecDepth 100000 in
set_option maxHeartbeats 4000000 in
theorem spec_within_eq {ps qs : List H3} {v : Bool} {A1 A2 : Option Addr} {c1 c2 : Nat} {w : World} (kp : regionOk ps = true) (kq : regionOk qs = true) (R1 : R3 99 w A1 c1 ps) (R2 : R3 99 w A2 c2 qs) (hv : Hid (withinL ps qs = v)) :
    Calls Tryz.prog 143 #[.agg #[.slice A1 ps.length c1], .agg #[.slice A2 qs.length c2]] w fun e w' => e = .returned (.bool v) ∧ Below w.heap.size w w' := by
  obtain ⟨G1, l1⟩ := region_good kp
  obtain ⟨G2, l2⟩ := region_good kq
  have ks := corners_spots kp
  have hcl := cornersL_length ps
  have HV := hv.out
  unfold withinL at HV
  have hz := Lib.hid (fun h : ps = [] => (by subst h; rfl : cornersL ps = []))
  obtain ⟨cs, hcs⟩ : ∃ cs, cornersL ps = cs := ⟨_, rfl⟩
  have HC := fun W A c (R : R3 99 W A c ps) => l05Corners_any G1 R (by omega)
  rw [hcs] at ks hcl HV hz HC
  have KS := Lib.hid ks
  have HV2 := Lib.hid HV
  have HCC := Lib.hid HC
  clear hcs ks HV hv kp kq G1 HC
  by_cases h0 : ps = []
  · obtain rfl : v = true := by rw [← HV2.out, hz.out h0]; rfl
    have HN : Hid (decide (ps.length = 0) = true) := Lib.hid (by rw [h0]; rfl)
    clear h0
    go_enter Tryz.func143, Tryz.ntmps143
    go_wp2_with ((go_at_call 77; (first | (with_reducible refine (calls_ov2 (spec_IsVoid_eq HN)).mono ?_) | refine (calls_ov (spec_IsVoid_eq HN)).mono ?_); rintro e w' ⟨rfl, x, rfl⟩))
    go_ret
    exact ⟨rfl, (by repeat (first | exact Below.refl _ _ | refine below_ov _ _ ?_ (by first | omega | (simp [ov_size] <;> omega)) | refine Below.alloc ?_ (by first | omega | (simp [ov_size] <;> omega)) _ | refine Below.setCell ?_ (by first | omega | (simp [ov_size] <;> omega)) _ | refine Below.drew ?_ | refine below_drewN ?_ _))⟩
  have HN : Hid (decide (ps.length = 0) = false) := Lib.hid (decide_eq_false (fun e => h0 (List.length_eq_zero_iff.1 e)))
  clear h0
  go_enter Tryz.func143, Tryz.ntmps143
  go_wp2_with ((go_at_call 77; (first | (with_reducible refine (calls_ov2 (spec_IsVoid_eq HN)).mono ?_) | refine (calls_ov (spec_IsVoid_eq HN)).mono ?_); rintro e w' ⟨rfl, x, rfl⟩))
  refine (HCC.out _ _ _ (by repeat (first | assumption | refine R3.ov ?_ _ | refine R3.alloc ?_ _))).mono ?_
  rintro e w1 ⟨A3, c3, rfl, RS, hb1⟩
  have T0 : Below w.heap.size w w1 := Below.trans (by repeat (first | exact Below.refl _ _ | refine below_ov _ _ ?_ (by first | omega | (simp [ov_size] <;> omega)) | refine Below.alloc ?_ (by first | omega | (simp [ov_size] <;> omega)) _ | refine Below.setCell ?_ (by first | omega | (simp [ov_size] <;> omega)) _ | refine Below.drew ?_ | refine below_drewN ?_ _)) (hb1.mono (by first | omega | (simp [ov_size] <;> omega)))
  have X2 := Lib.hid ((hb1.block (w.heap.size + 1) (by first | omega | (simp [ov_size] <;> omega))).trans (ov_blk (heap_new_at (r := some (.cells #[.slice A2 qs.length c2] 37 (0, 0))) (by simp) rfl)))
  have RW := R2.below T0
  replace RS := RS.r3
  clear hb1 R1
  have t0 := T0.size
  generalize w.heap.size + 1 = b2 at X2 ⊢
  go_wp2
  go_loopw [12] (fun i wr => ∃ k : Nat, k ≤ ps.length ∧ i = .int .i64 k ∧ Hid ((cs.take k).all (hasL qs) = true) ∧ Below w1.heap.size w1 wr) (fun i _ => ps.length - (intOf i).toNat)
  case atStart => exact ⟨0, Nat.zero_le _, rfl, Lib.hid rfl, Below.refl _ _⟩
  case round =>
    obtain ⟨k, hk, rfl, HA, hb⟩ := hrel
    have hbs := hb.size
    have hbw : Below w.heap.size w wr := T0.trans (hb.mono t0)
    have X3 := box_below X2 hb
    have x1 := cell_blk (j := 0) (v := .slice A2 qs.length c2) X3.out rfl
    have lx := (Array.getElem?_eq_some_iff.1 X3.out).1
    by_cases hlt : k < ps.length
    · have hlc : k < cs.length := by omega
      obtain ⟨g0, rfl, hg0, z0, z1, z2⟩ := (RS.below hb).at_ hlc
      have kc := KS.out _ (List.getElem_mem hlc)
      obtain ⟨u, hu⟩ : ∃ u, hasL qs cs[k] = u := ⟨_, rfl⟩
      have HU := Lib.hid hu
      have HT := Lib.hid (all_take_succ (hasL qs) cs k hlc)
      have RQ := RW.below hb
      cases u with
      | false =>
        obtain rfl : v = false := by rw [← HV2.out]; exact within_false hlc hu
        clear hu
        go_wp2_with ((go_at_call 59; (first | (with_reducible refine (calls_ov2 (l05Has_eq G2 kc (by repeat (first | assumption | refine R3.ov ?_ _ | refine R3.alloc ?_ _)) (by omega) HU)).mono ?_) | refine (calls_ov (l05Has_eq G2 kc (by repeat (first | assumption | refine R3.ov ?_ _ | refine R3.alloc ?_ _)) (by omega) HU)).mono ?_); rintro e w' ⟨rfl, x, rfl⟩))
        go_ret
        exact ⟨rfl, (by repeat (first | exact hbw | refine below_ov _ _ ?_ (by first | omega | (simp [ov_size] <;> omega)) | refine Below.alloc ?_ (by first | omega | (simp [ov_size] <;> omega)) _ | refine Below.setCell ?_ (by first | omega | (simp [ov_size] <;> omega)) _ | refine Below.drew ?_ | refine below_drewN ?_ _))⟩
      | true =>
        have HN : Hid ((cs.take (k + 1)).all (hasL qs) = true) := Lib.hid (by rw [HT.out, HA.out, hu]; rfl)
        clear hu
        go_wp2_with ((go_at_call 59; (first | (with_reducible refine (calls_ov2 (l05Has_eq G2 kc (by repeat (first | assumption | refine R3.ov ?_ _ | refine R3.alloc ?_ _)) (by omega) HU)).mono ?_) | refine (calls_ov (l05Has_eq G2 kc (by repeat (first | assumption | refine R3.ov ?_ _ | refine R3.alloc ?_ _)) (by omega) HU)).mono ?_); rintro e w' ⟨rfl, x, rfl⟩))
        go_roundw
        case rel => exact ⟨k + 1, by omega, by go_num, HN, (by repeat (first | exact hb | refine below_ov _ _ ?_ (by first | omega | (simp [ov_size] <;> omega)) | refine Below.alloc ?_ (by first | omega | (simp [ov_size] <;> omega)) _ | refine Below.setCell ?_ (by first | omega | (simp [ov_size] <;> omega)) _ | refine Below.drew ?_ | refine below_drewN ?_ _))⟩
        case measure => simp [intOf] <;> omega
    · obtain rfl : k = ps.length := by omega
      obtain rfl : v = true := by rw [← HV2.out, ← HA.out, ← hcl, List.take_length]
      go_wp2
      go_ret
      exact ⟨rfl, (by repeat (first | exact hbw | refine below_ov _ _ ?_ (by first | omega | (simp [ov_size] <;> omega)) | refine Below.alloc ?_ (by first | omega | (simp [ov_size] <;> omega)) _ | refine Below.setCell ?_ (by first | omega | (simp [ov_size] <;> omega)) _ | refine Below.drew ?_ | refine below_drewN ?_ _))⟩

set_option maxRecDepth 100000 in
theorem spec_IsWithin_eq {ps qs : List H3} {v : Bool} {A1 A2 : Option Addr} {c1 c2 : Nat} {w : World} (R1 : R3 99 w A1 c1 ps) (l1 : ps.length ≤ 1000000000) (R2 : R3 99 w A2 c2 qs) (l2 : qs.length ≤ 1000000000) (hv : Hid (isWithinR ps qs = v)) :
    Calls Tryz.prog 84 #[.agg #[.slice A1 ps.length c1], .agg #[.slice A2 qs.length c2]] w fun e w' => e = .returned (.bool v) ∧ Below w.heap.size w w' := by
  have h := hv.out
  unfold isWithinR at h
  rcases chain2 (regionOk ps) (regionOk qs) with h1 | ⟨h1, h2⟩ | ⟨h1, h2⟩
  · rw [h1] at h
    obtain rfl : false = v := h
    have H1 := Lib.hid h1
    clear h1 hv
    go_enter Tryz.func84, Tryz.ntmps84
    go_wp2_with ((go_at_call 56; (first | (with_reducible refine (calls_ov2 (spec_RegionOk_eq (by repeat (first | assumption | refine R3.ov ?_ _ | refine R3.alloc ?_ _)) l1 H1)).mono ?_) | refine (calls_ov (spec_RegionOk_eq (by repeat (first | assumption | refine R3.ov ?_ _ | refine R3.alloc ?_ _)) l1 H1)).mono ?_); rintro e w' ⟨rfl, x, rfl⟩))
    go_ret
    exact ⟨rfl, (by repeat (first | exact Below.refl _ _ | refine below_ov _ _ ?_ (by first | omega | (simp [ov_size] <;> omega)) | refine Below.alloc ?_ (by first | omega | (simp [ov_size] <;> omega)) _ | refine Below.setCell ?_ (by first | omega | (simp [ov_size] <;> omega)) _ | refine Below.drew ?_ | refine below_drewN ?_ _))⟩
  · rw [h1, h2] at h
    obtain rfl : false = v := h
    have H1 := Lib.hid h1
    have H2 := Lib.hid h2
    clear h1 h2 hv
    go_enter Tryz.func84, Tryz.ntmps84
    go_wp2_with (first | (go_at_call 56; (first | (with_reducible refine (calls_ov2 (spec_RegionOk_eq (by first | exact (R1.below (by repeat (first | exact Below.refl _ _ | refine below_ov _ _ ?_ (by first | omega | (simp [ov_size] <;> omega)) | refine Below.alloc ?_ (by first | omega | (simp [ov_size] <;> omega)) _ | refine Below.setCell ?_ (by first | omega | (simp [ov_size] <;> omega)) _ | refine Below.drew ?_ | refine below_drewN ?_ _))) | exact (R2.below (by repeat (first | exact Below.refl _ _ | refine below_ov _ _ ?_ (by first | omega | (simp [ov_size] <;> omega)) | refine Below.alloc ?_ (by first | omega | (simp [ov_size] <;> omega)) _ | refine Below.setCell ?_ (by first | omega | (simp [ov_size] <;> omega)) _ | refine Below.drew ?_ | refine below_drewN ?_ _)))) (by first | exact l1 | exact l2) (by first | exact H1 | exact H2))).mono ?_) | refine (calls_ov (spec_RegionOk_eq (by first | exact (R1.below (by repeat (first | exact Below.refl _ _ | refine below_ov _ _ ?_ (by first | omega | (simp [ov_size] <;> omega)) | refine Below.alloc ?_ (by first | omega | (simp [ov_size] <;> omega)) _ | refine Below.setCell ?_ (by first | omega | (simp [ov_size] <;> omega)) _ | refine Below.drew ?_ | refine below_drewN ?_ _))) | exact (R2.below (by repeat (first | exact Below.refl _ _ | refine below_ov _ _ ?_ (by first | omega | (simp [ov_size] <;> omega)) | refine Below.alloc ?_ (by first | omega | (simp [ov_size] <;> omega)) _ | refine Below.setCell ?_ (by first | omega | (simp [ov_size] <;> omega)) _ | refine Below.drew ?_ | refine below_drewN ?_ _)))) (by first | exact l1 | exact l2) (by first | exact H1 | exact H2))).mono ?_); rintro e w' ⟨rfl, x, rfl⟩))
    go_ret
    exact ⟨rfl, (by repeat (first | exact Below.refl _ _ | refine below_ov _ _ ?_ (by first | omega | (simp [ov_size] <;> omega)) | refine Below.alloc ?_ (by first | omega | (simp [ov_size] <;> omega)) _ | refine Below.setCell ?_ (by first | omega | (simp [ov_size] <;> omega)) _ | refine Below.drew ?_ | refine below_drewN ?_ _))⟩
  · rw [h1, h2] at h
    have HW : Hid (withinL ps qs = v) := Lib.hid h
    have H1 := Lib.hid h1
    have H2 := Lib.hid h2
    have HC := Lib.hid (fun W (R1 : R3 99 W A1 c1 ps) (R2 : R3 99 W A2 c2 qs) => spec_within_eq h1 h2 R1 R2 HW)
    clear h h1 h2 hv
    go_enter Tryz.func84, Tryz.ntmps84
    go_wp2_with (first | (go_at_call 56; (first | (with_reducible refine (calls_ov2 (spec_RegionOk_eq (by first | exact (R1.below (by repeat (first | exact Below.refl _ _ | refine below_ov _ _ ?_ (by first | omega | (simp [ov_size] <;> omega)) | refine Below.alloc ?_ (by first | omega | (simp [ov_size] <;> omega)) _ | refine Below.setCell ?_ (by first | omega | (simp [ov_size] <;> omega)) _ | refine Below.drew ?_ | refine below_drewN ?_ _))) | exact (R2.below (by repeat (first | exact Below.refl _ _ | refine below_ov _ _ ?_ (by first | omega | (simp [ov_size] <;> omega)) | refine Below.alloc ?_ (by first | omega | (simp [ov_size] <;> omega)) _ | refine Below.setCell ?_ (by first | omega | (simp [ov_size] <;> omega)) _ | refine Below.drew ?_ | refine below_drewN ?_ _)))) (by first | exact l1 | exact l2) (by first | exact H1 | exact H2))).mono ?_) | refine (calls_ov (spec_RegionOk_eq (by first | exact (R1.below (by repeat (first | exact Below.refl _ _ | refine below_ov _ _ ?_ (by first | omega | (simp [ov_size] <;> omega)) | refine Below.alloc ?_ (by first | omega | (simp [ov_size] <;> omega)) _ | refine Below.setCell ?_ (by first | omega | (simp [ov_size] <;> omega)) _ | refine Below.drew ?_ | refine below_drewN ?_ _))) | exact (R2.below (by repeat (first | exact Below.refl _ _ | refine below_ov _ _ ?_ (by first | omega | (simp [ov_size] <;> omega)) | refine Below.alloc ?_ (by first | omega | (simp [ov_size] <;> omega)) _ | refine Below.setCell ?_ (by first | omega | (simp [ov_size] <;> omega)) _ | refine Below.drew ?_ | refine below_drewN ?_ _)))) (by first | exact l1 | exact l2) (by first | exact H1 | exact H2))).mono ?_); rintro e w' ⟨rfl, x, rfl⟩) | (go_at_call 143; (first | (with_reducible refine (calls_ov2 (HC.out _ (by exact (R1.below (by repeat (first | exact Below.refl _ _ | refine below_ov _ _ ?_ (by first | omega | (simp [ov_size] <;> omega)) | refine Below.alloc ?_ (by first | omega | (simp [ov_size] <;> omega)) _ | refine Below.setCell ?_ (by first | omega | (simp [ov_size] <;> omega)) _ | refine Below.drew ?_ | refine below_drewN ?_ _)))) (by exact (R2.below (by repeat (first | exact Below.refl _ _ | refine below_ov _ _ ?_ (by first | omega | (simp [ov_size] <;> omega)) | refine Below.alloc ?_ (by first | omega | (simp [ov_size] <;> omega)) _ | refine Below.setCell ?_ (by first | omega | (simp [ov_size] <;> omega)) _ | refine Below.drew ?_ | refine below_drewN ?_ _)))))).mono ?_) | refine (calls_ov (HC.out _ (by exact (R1.below (by repeat (first | exact Below.refl _ _ | refine below_ov _ _ ?_ (by first | omega | (simp [ov_size] <;> omega)) | refine Below.alloc ?_ (by first | omega | (simp [ov_size] <;> omega)) _ | refine Below.setCell ?_ (by first | omega | (simp [ov_size] <;> omega)) _ | refine Below.drew ?_ | refine below_drewN ?_ _)))) (by exact (R2.below (by repeat (first | exact Below.refl _ _ | refine below_ov _ _ ?_ (by first | omega | (simp [ov_size] <;> omega)) | refine Below.alloc ?_ (by first | omega | (simp [ov_size] <;> omega)) _ | refine Below.setCell ?_ (by first | omega | (simp [ov_size] <;> omega)) _ | refine Below.drew ?_ | refine below_drewN ?_ _)))))).mono ?_); rintro e w' ⟨rfl, x, rfl⟩))
    go_ret
    exact ⟨rfl, (by repeat (first | exact Below.refl _ _ | refine below_ov _ _ ?_ (by first | omega | (simp [ov_size] <;> omega)) | refine Below.alloc ?_ (by first | omega | (simp [ov_size] <;> omega)) _ | refine Below.setCell ?_ (by first | omega | (simp [ov_size] <;> omega)) _ | refine Below.drew ?_ | refine below_drewN ?_ _))⟩

@[go_sem] theorem run_eql_spot (a b c a' b' c' : Int) (w : World) : (binOp .eql 41 (.agg #[.int .i64 a, .int .i64 b, .int .i64 c]) (.agg #[.int .i64 a', .int .i64 b', .int .i64 c'])).run Tryz.prog w = .ok (.bool (decide (a = a' ∧ b = b' ∧ c = c'))) w := by
  rw [run_eql_struct, run_equal_spot]; rfl
def isCornerR (hs : List H3) (s : H3) : Bool := decide (s ∈ cornersR hs)
theorem mem_take_succ {xs : List H3} {s : H3} {k : Nat} (hk : k < xs.length) (h : s ∉ xs.take k) (hn : ¬ xs[k] = s) : s ∉ xs.take (k + 1) := by
  rw [List.take_succ_eq_append_getElem hk]
  intro hm
  rcases List.mem_append.1 hm with h1 | h1
  · exact h h1
  · simp at h1; exact hn h1.symm
theorem h3_parts (x s : H3) : (x = s ∧ x.a = s.a ∧ x.b = s.b ∧ x.c = s.c) ∨ (x ≠ s ∧ (¬ x.a = s.a ∨ (x.a = s.a ∧ ¬ x.b = s.b) ∨ (x.a = s.a ∧ x.b = s.b ∧ ¬ x.c = s.c))) := by
  have := @h3_eq x s
  by_cases e1 : x.a = s.a <;> by_cases e2 : x.b = s.b <;> by_cases e3 : x.c = s.c <;> simp_all

def GSp (xs : List H3) (w0 : World) (v : Value) (w : World) : Prop := ∃ A c, v = .slice A xs.length c ∧ RB w0.heap.size 41 w A c xs
theorem owned_sp (xs : List H3) : Owned 37 (GSp xs) :=
  ⟨fun w0 v w x ⟨A, c, e, R⟩ => ⟨A, c, e, R.below (below_ov _ _ (Below.refl _ _) (Nat.le_refl _))⟩, fun w0 v w b cur arr hb hs ⟨A, c, e, R⟩ => ⟨A, c, e, R.set_row hb (by decide)⟩⟩
end Go.Proofs.YtgdleimdenbnlaaGreat
