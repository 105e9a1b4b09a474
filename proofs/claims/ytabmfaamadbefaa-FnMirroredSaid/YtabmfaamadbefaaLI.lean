/- FnMirrored returns true for every argument, and leaves it as it was. No condition. -/
import Derived.Test.YtabmfaamadbefaaObr
import Derived.Test.YtabmfaamadbefaaCe
import Derived.Test.YtabmfaamadbefaaBx
import Derived.Test.YtabmfaamadbefaaZi
import Derived.Test.YtabmfaamadbefaaMj
import Derived.Test.YtabmfaamadbefaaWs
set_option linter.unusedVariables false
set_option linter.unusedSimpArgs false
set_option linter.unusedSectionVars false
namespace Go.Proofs.Ytabmfaamadbefaa
open Go.ChangeShapes Go.WideShapes Go.ChangeAt Go.RowKit Go.Joins

set_option maxRecDepth 100000 in
set_option maxHeartbeats 8000000 in
theorem lawI_any {bs : List Int} {A : Option Addr} {c : Nat} (w : World) (Rcode : RY w A bs) (hlen : bs.length ≤ 9223372036854775807) :
    Calls Try.prog 4 #[.slice A bs.length c] w fun e w' => e = .returned (.bool true) ∧ Below w.heap.size w w' := by
  by_cases hm : 1048576 < bs.length
  · go_enter Try.func4, Try.ntmps4
    go_wp2
    go_ret
    exact ⟨rfl, (by repeat (first | exact bR | refine bO ?_ | refine bA ?_ | refine bS ?_ | refine bD ?_ | refine bN ?_))⟩
  replace hm : bs.length ≤ 1048576 := by omega
  go_enter Try.func4, Try.ntmps4
  go_wp2_with fail
  obtain ⟨V, hV⟩ : ∃ V, V = w := ⟨_, rfl⟩
  have TV : Below w.heap.size w V := by rw [hV]; exact Below.refl _ _
  have s0 : w.heap.size ≤ V.heap.size := TV.size
  obtain ⟨W0, hW⟩ : ∃ W0, W0 = w := ⟨_, rfl⟩
  rw [← hW]
  have T : Below V.heap.size V W0 := by rw [hW, hV]; exact Below.refl _ _
  clear hW hV
  have Scode := Rcode.below (TV.trans (T.mono s0))
  refine (MakeArea_any (Scode.below (by repeat (first | exact bR | refine bO ?_ | refine bA ?_ | refine bS ?_ | refine bD ?_ | refine bN ?_))) hm ⟨by omega, by omega⟩).mono ?_
  rintro e W1 ⟨⟨p, Ap, cp, rfl, Xp, kp, ApP⟩, hb⟩
  have K : Below W0.heap.size W0 W1 := Below.trans (by repeat (first | exact bR | refine bO ?_ | refine bA ?_ | refine bS ?_ | refine bD ?_ | refine bN ?_)) (hb.mono (by first | exact Nat.le_refl _ | simp [ov_size]))
  clear hb
  replace T := T.trans (K.mono T.size)
  clear K Scode
  have Scode := Rcode.below (TV.trans (T.mono s0))
  have lp := (region_good kp).2
  go_wp2_with fail
  obtain ⟨bp, hbx⟩ : ∃ b, b = W1.heap.size := ⟨_, rfl⟩
  rw [← hbx]
  obtain ⟨W2, hW⟩ : ∃ W, W = W1.alloc (.cells #[.slice Ap p.length cp] 25) := ⟨_, rfl⟩
  rw [← hW]
  have K : Below W1.heap.size W1 W2 := by rw [hW]; exact (by repeat (first | exact bR | refine bO ?_ | refine bA ?_ | refine bS ?_ | refine bD ?_ | refine bN ?_))
  have Bp := Lib.hid (show W2.heap[bp]? = some (.cells #[.slice Ap p.length cp] 25 (0, 0)) by rw [hW, hbx]; exact heap_alloc_new _ _)
  clear hW hbx
  replace T := T.trans (K.mono T.size)
  replace Xp := Xp.below K
  clear K Scode
  have Scode := Rcode.below (TV.trans (T.mono s0))
  refine (MakeNum_any (Scode.below (by repeat (first | exact bR | refine bO ?_ | refine bA ?_ | refine bS ?_ | refine bD ?_ | refine bN ?_))) hm ⟨by omega, by omega⟩).mono ?_
  rintro e W3 ⟨zdx, rfl, ⟨za, zb⟩, hb⟩
  have K : Below W2.heap.size W2 W3 := Below.trans (by repeat (first | exact bR | refine bO ?_ | refine bA ?_ | refine bS ?_ | refine bD ?_ | refine bN ?_)) (hb.mono (by first | exact Nat.le_refl _ | simp [ov_size]))
  clear hb
  replace T := T.trans (K.mono T.size)
  replace Bp := box_below Bp K
  replace Xp := Xp.below K
  clear K Scode
  have Scode := Rcode.below (TV.trans (T.mono s0))
  obtain ⟨Bpc0, Bpl⟩ := cb1 Bp
  go_wp2_with fail
  clear Bpc0 Bpl
  obtain ⟨dx, hk⟩ : ∃ k : Int, zdx % 60 - 30 = k := ⟨_, rfl⟩
  rw [hk]
  have kdx : -30 ≤ dx ∧ dx ≤ 30 := by omega
  clear hk za zb
  refine (MakeNum_any (Scode.below (by repeat (first | exact bR | refine bO ?_ | refine bA ?_ | refine bS ?_ | refine bD ?_ | refine bN ?_))) hm ⟨by omega, by omega⟩).mono ?_
  rintro e W4 ⟨zdy, rfl, ⟨za, zb⟩, hb⟩
  have K : Below W3.heap.size W3 W4 := Below.trans (by repeat (first | exact bR | refine bO ?_ | refine bA ?_ | refine bS ?_ | refine bD ?_ | refine bN ?_)) (hb.mono (by first | exact Nat.le_refl _ | simp [ov_size]))
  clear hb
  replace T := T.trans (K.mono T.size)
  replace Bp := box_below Bp K
  replace Xp := Xp.below K
  clear K Scode
  have Scode := Rcode.below (TV.trans (T.mono s0))
  obtain ⟨Bpc0, Bpl⟩ := cb1 Bp
  go_wp2_with fail
  clear Bpc0 Bpl
  obtain ⟨dy, hk⟩ : ∃ k : Int, zdy % 60 - 30 = k := ⟨_, rfl⟩
  rw [hk]
  have kdy : -30 ≤ dy ∧ dy ≤ 30 := by omega
  clear hk za zb
  obtain ⟨m, hmt, km, lm⟩ := mirror_area kp (by have := area_len ApP; omega)
  obtain ⟨n, hnt, kn, ln⟩ := mirror_area km (by have := area_len ApP; omega)
  have enp := mirror_twice kp hmt hnt kn
  have ln2 := (region_good kn).2
  obtain ⟨a, hat, Na, la, sa⟩ := shift_area (area_near ApP) (by have := area_len ApP; omega) (by omega) (by omega) kdx kdy
  obtain ⟨b, hbt, Nb, lb, sb⟩ := shift_area Na (by have := area_len ApP; omega) (by omega) (by omega) (show -30 ≤ -dx ∧ -dx ≤ 30 by omega) (show -30 ≤ -dy ∧ -dy ≤ 30 by omega)
  have ebp := shift_back kp Nb.reg sa sb
  have lb2 := Nb.len
  have c1 := mirror_count ApP hmt km
  have c2 := shift_count ApP Na.reg kdx kdy sa
  have c3 := box_count kdx kdy
  have la2 := Na.len
  have lm2 := (region_good km).2
  obtain ⟨kx1, kx2⟩ := kdx
  obtain ⟨ky1, ky2⟩ := kdy
  have BB : BoxBd dx dy (dx + 7) (dy + 5) := ⟨by omega, by omega⟩
  obtain ⟨v, hv⟩ : ∃ v, wholeN p = v := ⟨_, rfl⟩
  rw [hv] at c1 c2
  have HM := Lib.hid hmt
  have HN := Lib.hid hnt
  have HA := Lib.hid hat
  have HB := Lib.hid hbt
  have C0 := Lib.hid hv
  have C1 := Lib.hid c1
  have C2 := Lib.hid c2
  have C3 := Lib.hid c3
  have HS1 : Hid (decide (n = p) = true) := Lib.hid (decide_eq_true enp)
  have HS2 : Hid (decide (b = p) = true) := Lib.hid (decide_eq_true ebp)
  clear enp ebp
  clear hmt hnt hat hbt hv c1 c2 c3 sa sb Na Nb ApP km kn
  refine (impl_MirrorRegion_eq (by exact Xp.below (by repeat (first | exact bR | refine bO ?_ | refine bA ?_ | refine bS ?_ | refine bD ?_ | refine bN ?_))) (by omega) HM).mono ?_
  rintro e W5 ⟨Am, cm, rfl, Xm, hb⟩
  have K : Below W4.heap.size W4 W5 := Below.trans (by repeat (first | exact bR | refine bO ?_ | refine bA ?_ | refine bS ?_ | refine bD ?_ | refine bN ?_)) (hb.mono (by first | exact Nat.le_refl _ | simp [ov_size]))
  clear hb
  replace T := T.trans (K.mono T.size)
  replace Bp := box_below Bp K
  replace Xp := Xp.below K
  clear K Scode
  have Scode := Rcode.below (TV.trans (T.mono s0))
  replace Xm := Xm.r3
  obtain ⟨Bpc0, Bpl⟩ := cb1 Bp
  go_wp2_with fail
  clear Bpc0 Bpl
  obtain ⟨bm, hbx⟩ : ∃ b, b = W5.heap.size := ⟨_, rfl⟩
  rw [← hbx]
  obtain ⟨W6, hW⟩ : ∃ W, W = W5.alloc (.cells #[.slice Am m.length cm] 25) := ⟨_, rfl⟩
  rw [← hW]
  have K : Below W5.heap.size W5 W6 := by rw [hW]; exact (by repeat (first | exact bR | refine bO ?_ | refine bA ?_ | refine bS ?_ | refine bD ?_ | refine bN ?_))
  have Bm := Lib.hid (show W6.heap[bm]? = some (.cells #[.slice Am m.length cm] 25 (0, 0)) by rw [hW, hbx]; exact heap_alloc_new _ _)
  clear hW hbx
  replace T := T.trans (K.mono T.size)
  replace Bp := box_below Bp K
  replace Xp := Xp.below K
  replace Xm := Xm.below K
  clear K Scode
  have Scode := Rcode.below (TV.trans (T.mono s0))
  refine (impl_MirrorRegion_eq (by exact Xm.below (by repeat (first | exact bR | refine bO ?_ | refine bA ?_ | refine bS ?_ | refine bD ?_ | refine bN ?_))) (by omega) HN).mono ?_
  rintro e W7 ⟨An, cn, rfl, Xn, hb⟩
  have K : Below W6.heap.size W6 W7 := Below.trans (by repeat (first | exact bR | refine bO ?_ | refine bA ?_ | refine bS ?_ | refine bD ?_ | refine bN ?_)) (hb.mono (by first | exact Nat.le_refl _ | simp [ov_size]))
  clear hb
  replace T := T.trans (K.mono T.size)
  replace Bp := box_below Bp K
  replace Bm := box_below Bm K
  replace Xp := Xp.below K
  replace Xm := Xm.below K
  clear K Scode
  have Scode := Rcode.below (TV.trans (T.mono s0))
  replace Xn := Xn.r3
  obtain ⟨Bpc0, Bpl⟩ := cb1 Bp
  obtain ⟨Bmc0, Bml⟩ := cb1 Bm
  go_wp2_with fail
  clear Bpc0 Bmc0 Bpl Bml
  obtain ⟨bn, hbx⟩ : ∃ b, b = W7.heap.size := ⟨_, rfl⟩
  rw [← hbx]
  obtain ⟨W8, hW⟩ : ∃ W, W = W7.alloc (.cells #[.slice An n.length cn] 25) := ⟨_, rfl⟩
  rw [← hW]
  have K : Below W7.heap.size W7 W8 := by rw [hW]; exact (by repeat (first | exact bR | refine bO ?_ | refine bA ?_ | refine bS ?_ | refine bD ?_ | refine bN ?_))
  have Bn := Lib.hid (show W8.heap[bn]? = some (.cells #[.slice An n.length cn] 25 (0, 0)) by rw [hW, hbx]; exact heap_alloc_new _ _)
  clear hW hbx
  replace T := T.trans (K.mono T.size)
  replace Bp := box_below Bp K
  replace Bm := box_below Bm K
  replace Xp := Xp.below K
  replace Xm := Xm.below K
  replace Xn := Xn.below K
  clear K Scode
  have Scode := Rcode.below (TV.trans (T.mono s0))
  refine (impl_ShiftRegion_eq (by exact Xp.below (by repeat (first | exact bR | refine bO ?_ | refine bA ?_ | refine bS ?_ | refine bD ?_ | refine bN ?_))) (by omega) (by omega) (by omega) HA).mono ?_
  rintro e W9 ⟨Aa, ca, rfl, Xa, hb⟩
  have K : Below W8.heap.size W8 W9 := Below.trans (by repeat (first | exact bR | refine bO ?_ | refine bA ?_ | refine bS ?_ | refine bD ?_ | refine bN ?_)) (hb.mono (by first | exact Nat.le_refl _ | simp [ov_size]))
  clear hb
  replace T := T.trans (K.mono T.size)
  replace Bp := box_below Bp K
  replace Bm := box_below Bm K
  replace Bn := box_below Bn K
  replace Xp := Xp.below K
  replace Xm := Xm.below K
  replace Xn := Xn.below K
  clear K Scode
  have Scode := Rcode.below (TV.trans (T.mono s0))
  replace Xa := Xa.r3
  obtain ⟨Bpc0, Bpl⟩ := cb1 Bp
  obtain ⟨Bmc0, Bml⟩ := cb1 Bm
  obtain ⟨Bnc0, Bnl⟩ := cb1 Bn
  go_wp2_with fail
  clear Bpc0 Bmc0 Bnc0 Bpl Bml Bnl
  obtain ⟨ba, hbx⟩ : ∃ b, b = W9.heap.size := ⟨_, rfl⟩
  rw [← hbx]
  obtain ⟨W10, hW⟩ : ∃ W, W = W9.alloc (.cells #[.slice Aa a.length ca] 25) := ⟨_, rfl⟩
  rw [← hW]
  have K : Below W9.heap.size W9 W10 := by rw [hW]; exact (by repeat (first | exact bR | refine bO ?_ | refine bA ?_ | refine bS ?_ | refine bD ?_ | refine bN ?_))
  have Ba := Lib.hid (show W10.heap[ba]? = some (.cells #[.slice Aa a.length ca] 25 (0, 0)) by rw [hW, hbx]; exact heap_alloc_new _ _)
  clear hW hbx
  replace T := T.trans (K.mono T.size)
  replace Bp := box_below Bp K
  replace Bm := box_below Bm K
  replace Bn := box_below Bn K
  replace Xp := Xp.below K
  replace Xm := Xm.below K
  replace Xn := Xn.below K
  replace Xa := Xa.below K
  clear K Scode
  have Scode := Rcode.below (TV.trans (T.mono s0))
  refine (impl_ShiftRegion_eq (by exact Xa.below (by repeat (first | exact bR | refine bO ?_ | refine bA ?_ | refine bS ?_ | refine bD ?_ | refine bN ?_))) (by omega) (by omega) (by omega) HB).mono ?_
  rintro e W11 ⟨Ab, cb, rfl, Xb, hb⟩
  have K : Below W10.heap.size W10 W11 := Below.trans (by repeat (first | exact bR | refine bO ?_ | refine bA ?_ | refine bS ?_ | refine bD ?_ | refine bN ?_)) (hb.mono (by first | exact Nat.le_refl _ | simp [ov_size]))
  clear hb
  replace T := T.trans (K.mono T.size)
  replace Bp := box_below Bp K
  replace Bm := box_below Bm K
  replace Bn := box_below Bn K
  replace Ba := box_below Ba K
  replace Xp := Xp.below K
  replace Xm := Xm.below K
  replace Xn := Xn.below K
  replace Xa := Xa.below K
  clear K Scode
  have Scode := Rcode.below (TV.trans (T.mono s0))
  replace Xb := Xb.r3
  obtain ⟨Bpc0, Bpl⟩ := cb1 Bp
  obtain ⟨Bmc0, Bml⟩ := cb1 Bm
  obtain ⟨Bnc0, Bnl⟩ := cb1 Bn
  obtain ⟨Bac0, Bal⟩ := cb1 Ba
  go_wp2_with fail
  clear Bpc0 Bmc0 Bnc0 Bac0 Bpl Bml Bnl Bal
  obtain ⟨bb, hbx⟩ : ∃ b, b = W11.heap.size := ⟨_, rfl⟩
  rw [← hbx]
  obtain ⟨W12, hW⟩ : ∃ W, W = W11.alloc (.cells #[.slice Ab b.length cb] 25) := ⟨_, rfl⟩
  rw [← hW]
  have K : Below W11.heap.size W11 W12 := by rw [hW]; exact (by repeat (first | exact bR | refine bO ?_ | refine bA ?_ | refine bS ?_ | refine bD ?_ | refine bN ?_))
  have Bb := Lib.hid (show W12.heap[bb]? = some (.cells #[.slice Ab b.length cb] 25 (0, 0)) by rw [hW, hbx]; exact heap_alloc_new _ _)
  clear hW hbx
  replace T := T.trans (K.mono T.size)
  replace Bp := box_below Bp K
  replace Bm := box_below Bm K
  replace Bn := box_below Bn K
  replace Ba := box_below Ba K
  replace Xp := Xp.below K
  replace Xm := Xm.below K
  replace Xn := Xn.below K
  replace Xa := Xa.below K
  replace Xb := Xb.below K
  clear K Scode
  have Scode := Rcode.below (TV.trans (T.mono s0))
  refine (impl_BoxRegion_any BB).mono ?_
  rintro e W13 ⟨Ax, cx, rfl, Xx, hb⟩
  have K : Below W12.heap.size W12 W13 := Below.trans (by repeat (first | exact bR | refine bO ?_ | refine bA ?_ | refine bS ?_ | refine bD ?_ | refine bN ?_)) (hb.mono (by first | exact Nat.le_refl _ | simp [ov_size]))
  clear hb
  replace T := T.trans (K.mono T.size)
  replace Bp := box_below Bp K
  replace Bm := box_below Bm K
  replace Bn := box_below Bn K
  replace Ba := box_below Ba K
  replace Bb := box_below Bb K
  replace Xp := Xp.below K
  replace Xm := Xm.below K
  replace Xn := Xn.below K
  replace Xa := Xa.below K
  replace Xb := Xb.below K
  clear K Scode
  have Scode := Rcode.below (TV.trans (T.mono s0))
  replace Xx := Xx.r3
  have lx : (boxB dx dy (dx + 7) (dy + 5)).length ≤ 40 := by simp [boxB]
  generalize boxB dx dy (dx + 7) (dy + 5) = xl at Xx C3 lx ⊢
  obtain ⟨Bpc0, Bpl⟩ := cb1 Bp
  obtain ⟨Bmc0, Bml⟩ := cb1 Bm
  obtain ⟨Bnc0, Bnl⟩ := cb1 Bn
  obtain ⟨Bac0, Bal⟩ := cb1 Ba
  obtain ⟨Bbc0, Bbl⟩ := cb1 Bb
  go_wp2_with fail
  clear Bpc0 Bmc0 Bnc0 Bac0 Bbc0 Bpl Bml Bnl Bal Bbl
  obtain ⟨bx, hbx⟩ : ∃ b, b = W13.heap.size := ⟨_, rfl⟩
  rw [← hbx]
  obtain ⟨W14, hW⟩ : ∃ W, W = W13.alloc (.cells #[.slice Ax xl.length cx] 25) := ⟨_, rfl⟩
  rw [← hW]
  have K : Below W13.heap.size W13 W14 := by rw [hW]; exact (by repeat (first | exact bR | refine bO ?_ | refine bA ?_ | refine bS ?_ | refine bD ?_ | refine bN ?_))
  have Bx := Lib.hid (show W14.heap[bx]? = some (.cells #[.slice Ax xl.length cx] 25 (0, 0)) by rw [hW, hbx]; exact heap_alloc_new _ _)
  clear hW hbx
  replace T := T.trans (K.mono T.size)
  replace Bp := box_below Bp K
  replace Bm := box_below Bm K
  replace Bn := box_below Bn K
  replace Ba := box_below Ba K
  replace Bb := box_below Bb K
  replace Xp := Xp.below K
  replace Xm := Xm.below K
  replace Xn := Xn.below K
  replace Xa := Xa.below K
  replace Xb := Xb.below K
  replace Xx := Xx.below K
  clear K Scode
  have Scode := Rcode.below (TV.trans (T.mono s0))
  obtain ⟨Bpc0, Bpl⟩ := cb1 Bp
  obtain ⟨Bmc0, Bml⟩ := cb1 Bm
  obtain ⟨Bnc0, Bnl⟩ := cb1 Bn
  obtain ⟨Bac0, Bal⟩ := cb1 Ba
  obtain ⟨Bbc0, Bbl⟩ := cb1 Bb
  obtain ⟨Bxc0, Bxl⟩ := cb1 Bx
  (refine wp_region_calm_tail 43 (by kernel_rfl) (by kernel_rfl) ?_; simp only [List.take_succ_cons, List.take_zero, List.drop_succ_cons, List.drop_zero]; (repeat (go_big_quiet_step (first | (go_at_call 10; exact calm_below (SameRegion_eq (by exact Xn.below (by repeat (first | exact bR | refine bO ?_ | refine bA ?_ | refine bS ?_ | refine bD ?_ | refine bN ?_))) (by exact Xp.below (by repeat (first | exact bR | refine bO ?_ | refine bA ?_ | refine bS ?_ | refine bD ?_ | refine bN ?_))) (by omega) (by omega) HS1)) | (go_at_call 10; exact calm_below (SameRegion_eq (by exact Xb.below (by repeat (first | exact bR | refine bO ?_ | refine bA ?_ | refine bS ?_ | refine bD ?_ | refine bN ?_))) (by exact Xp.below (by repeat (first | exact bR | refine bO ?_ | refine bA ?_ | refine bS ?_ | refine bD ?_ | refine bN ?_))) (by omega) (by omega) HS2)) | (go_at_call 16; exact calm_below (impl_WholeSpots_eq (by exact Xm.below (by repeat (first | exact bR | refine bO ?_ | refine bA ?_ | refine bS ?_ | refine bD ?_ | refine bN ?_))) (by omega) C1)) | (go_at_call 16; exact calm_below (impl_WholeSpots_eq (by exact Xp.below (by repeat (first | exact bR | refine bO ?_ | refine bA ?_ | refine bS ?_ | refine bD ?_ | refine bN ?_))) (by omega) C0)) | (go_at_call 16; exact calm_below (impl_WholeSpots_eq (by exact Xa.below (by repeat (first | exact bR | refine bO ?_ | refine bA ?_ | refine bS ?_ | refine bD ?_ | refine bN ?_))) (by omega) C2)) | (go_at_call 16; exact calm_below (impl_WholeSpots_eq (by exact Xx.below (by repeat (first | exact bR | refine bO ?_ | refine bA ?_ | refine bS ?_ | refine bD ?_ | refine bN ?_))) (by omega) C3))))); refine wpQuiet_nil ?_; rintro _ ⟨y, rfl⟩)
  clear Bpc0 Bmc0 Bnc0 Bac0 Bbc0 Bxc0 Bpl Bml Bnl Bal Bbl Bxl
  obtain ⟨W15, hW⟩ : ∃ Z, Z = ov W14 y := ⟨_, rfl⟩
  rw [← hW]
  have K : Below W14.heap.size W14 W15 := by rw [hW]; exact (by repeat (first | exact bR | refine bO ?_ | refine bA ?_ | refine bS ?_ | refine bD ?_ | refine bN ?_))
  clear hW
  replace T := T.trans (K.mono T.size)
  replace Bp := box_below Bp K
  replace Bm := box_below Bm K
  replace Bn := box_below Bn K
  replace Ba := box_below Ba K
  replace Bb := box_below Bb K
  replace Bx := box_below Bx K
  replace Xp := Xp.below K
  replace Xm := Xm.below K
  replace Xn := Xn.below K
  replace Xa := Xa.below K
  replace Xb := Xb.below K
  replace Xx := Xx.below K
  clear K Scode
  have Scode := Rcode.below (TV.trans (T.mono s0))
  obtain ⟨Bpc0, Bpl⟩ := cb1 Bp
  obtain ⟨Bmc0, Bml⟩ := cb1 Bm
  obtain ⟨Bnc0, Bnl⟩ := cb1 Bn
  obtain ⟨Bac0, Bal⟩ := cb1 Ba
  obtain ⟨Bbc0, Bbl⟩ := cb1 Bb
  obtain ⟨Bxc0, Bxl⟩ := cb1 Bx
  go_wp2_with fail
  clear Bpc0 Bmc0 Bnc0 Bac0 Bbc0 Bxc0 Bpl Bml Bnl Bal Bbl Bxl
  refine (FrameHalves_any).mono ?_
  rintro e W16 ⟨Af, cf, rfl, Xf, hb⟩
  have K : Below W15.heap.size W15 W16 := Below.trans (by repeat (first | exact bR | refine bO ?_ | refine bA ?_ | refine bS ?_ | refine bD ?_ | refine bN ?_)) (hb.mono (by first | exact Nat.le_refl _ | simp [ov_size]))
  clear hb
  replace T := T.trans (K.mono T.size)
  replace Bp := box_below Bp K
  replace Bm := box_below Bm K
  replace Bn := box_below Bn K
  replace Ba := box_below Ba K
  replace Bb := box_below Bb K
  replace Bx := box_below Bx K
  replace Xp := Xp.below K
  replace Xm := Xm.below K
  replace Xn := Xn.below K
  replace Xa := Xa.below K
  replace Xb := Xb.below K
  replace Xx := Xx.below K
  clear K Scode
  have Scode := Rcode.below (TV.trans (T.mono s0))
  have lf : frameH.length = 4 := rfl
  rw [lf]
  obtain ⟨Bpc0, Bpl⟩ := cb1 Bp
  obtain ⟨Bmc0, Bml⟩ := cb1 Bm
  obtain ⟨Bnc0, Bnl⟩ := cb1 Bn
  obtain ⟨Bac0, Bal⟩ := cb1 Ba
  obtain ⟨Bbc0, Bbl⟩ := cb1 Bb
  obtain ⟨Bxc0, Bxl⟩ := cb1 Bx
  go_wp2
  go_ret
  exact ⟨rfl, (by repeat (first | exact TV.trans (T.mono s0) | refine bO ?_ | refine bA ?_ | refine bS ?_ | refine bD ?_ | refine bN ?_))⟩
set_option maxRecDepth 100000 in
theorem FnMirrored_lifted (os : Os) (started : os.Started) (H : Type) (enc : TypeId × Value → H) :
    ReturnsInHanded {} Try.checked os 4 .any (Rows.fnMirroredSpec.pre6 enc Try.prog Try.f4 Rows.fnMirroredRow.domain false) (Rows.fnMirroredSpec.post enc Try.prog Try.f4 false true false false) := by
  refine returnsInHanded_of_change (C := Try.checked) own started (by kernel_rfl) Try.func4
    (ChangeSpec.witness6 (enc := enc) (C := Try.checked) false ⟨#[], #[.slice none 0 0], []⟩ 8 (by kernel_rfl) (by kernel_rfl) (by kernel_rfl) (by kernel_rfl)) ?_
  intro W base args ds gs before hval0 hW hcnd _
  have hval : ∀ (j : Nat) t v, Try.f4.params[j]? = some t → args[j]? = some v → Value.okWide Try.prog W .any base t v := hval0
  have hW' := hW
  obtain ⟨p, q, hA0, hV, rfl, hfz, hnd⟩ := hW
  have hA : DataW.TrodAll enc Try.prog W 0 (fun _ => true) true Try.f4.params.toList args.toList ds p := hA0
  rw [Try.params4] at hA hval
  obtain ⟨v0, vs0, d0, ds0, p0, q0, hargs0, rfl, rfl, h0, r0⟩ := trodAll_cons hA
  obtain ⟨rfl, rfl, rfl⟩ := trodAll_nil r0
  obtain rfl : args = #[v0] := by cases args; simp_all
  obtain ⟨rfl, rfl⟩ := trodVars_none hV
  have k0 := h0
  have lt0 : ∀ x ∈ p0, x.block < W.heap.size := by obtain ⟨m, hm⟩ := k0; exact DataW.trod_lt m _ _ _ hm
  have hv0 := hval 0 22 v0 rfl rfl
  obtain ⟨A0, c0, xs0, rfl, RR0, hlen0⟩ := open_bytes hv0 h0
  clear hA0 hval0
  refine (lawI_any W RR0 hlen0).mono fun e W' ⟨he, bel⟩ => ?_
  subst he
  exact ⟨_, rfl, _, _, _, [], _, [], hW', trodAll_mk1 (shut_bool Try.underlying4 _), (trodAll_cons_mk (Below.trod laidOut (by kernel_rfl) (of_decide_eq_true (by kernel_rfl)) k0 bel lt0) trodAll_mk0), rfl, bel.frame _, fun h => by cases h⟩

theorem FnMirrored_holds : Rows.FnMirroredSaid :=
  OpenClaim.holds_of_wide 4 Try.f4 rfl rfl rfl rfl rfl rfl rfl ⟨rfl, rfl, rfl, rfl, rfl⟩ rfl rfl rfl rfl rfl (by kernel_rfl) Try.func4 (by kernel_rfl)
    (of_decide_eq_true (by kernel_rfl)) (by unfold Func.isWrapper; first | (rw [if_pos (by decide +kernel)]; kernel_rfl) | (rw [if_neg (by decide +kernel)]; exact ⟨rfl, rfl⟩))
    (fun os started H enc _ => FnMirrored_lifted os started H enc)
#print axioms FnMirrored_holds

end Go.Proofs.Ytabmfaamadbefaa
