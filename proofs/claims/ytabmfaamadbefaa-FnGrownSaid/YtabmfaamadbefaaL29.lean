/- FnGrown returns true for every argument, and leaves it as it was. No condition. -/
import Derived.Test.YtabmfaamadbefaaObr
import Derived.Test.YtabmfaamadbefaaCe
import Derived.Test.YtabmfaamadbefaaHsp
import Derived.Test.YtabmfaamadbefaaZg
import Derived.Test.YtabmfaamadbefaaGs
import Derived.Test.YtabmfaamadbefaaWn
import Derived.Test.YtabmfaamadbefaaSps
set_option linter.unusedVariables false
set_option linter.unusedSimpArgs false
set_option linter.unusedSectionVars false
namespace Go.Proofs.Ytabmfaamadbefaa
open Go.ChangeShapes Go.WideShapes Go.ChangeAt Go.RowKit Go.Joins

set_option maxRecDepth 100000 in
set_option maxHeartbeats 8000000 in
theorem law29_any {bs : List Int} {A : Option Addr} {c : Nat} (w : World) (Rcode : RY w A bs) (hlen : bs.length ≤ 9223372036854775807) :
    Calls Try.prog 7 #[.slice A bs.length c] w fun e w' => e = .returned (.bool true) ∧ Below w.heap.size w w' := by
  by_cases hm : 1048576 < bs.length
  · go_enter Try.func7, Try.ntmps7
    go_wp2
    go_ret
    exact ⟨rfl, (by repeat (first | exact bR | refine bO ?_ | refine bA ?_ | refine bS ?_ | refine bD ?_ | refine bN ?_))⟩
  replace hm : bs.length ≤ 1048576 := by omega
  go_enter Try.func7, Try.ntmps7
  go_wp2_with fail
  obtain ⟨V, hV⟩ : ∃ V, V = w := ⟨_, rfl⟩
  have TV : Below w.heap.size w V := by rw [hV]; exact Below.refl _ _
  have s0 : w.heap.size ≤ V.heap.size := TV.size
  obtain ⟨W0, hW⟩ : ∃ W0, W0 = w := ⟨_, rfl⟩
  rw [← hW]
  have T : Below V.heap.size V W0 := by rw [hW, hV]; exact Below.refl _ _
  clear hW hV
  have Scode := Rcode.below (TV.trans (T.mono s0))
  refine (MakeArea_any (Scode.below (by repeat (first | exact bR | refine bO ?_ | refine bA ?_ | refine bS ?_ | refine bD ?_ | refine bN ?_))) hm ⟨by omega, by omega⟩).mono ?_
  rintro e W1 ⟨⟨p, Ap, cp, rfl, Xp, kp, ApP⟩, hb⟩
  have K : Below W0.heap.size W0 W1 := Below.trans (by repeat (first | exact bR | refine bO ?_ | refine bA ?_ | refine bS ?_ | refine bD ?_ | refine bN ?_)) (hb.mono (by first | exact Nat.le_refl _ | simp [ov_size]))
  clear hb
  replace T := T.trans (K.mono T.size)
  clear K Scode
  have Scode := Rcode.below (TV.trans (T.mono s0))
  have lp := (region_good kp).2
  go_wp2_with fail
  obtain ⟨bp, hbx⟩ : ∃ b, b = W1.heap.size := ⟨_, rfl⟩
  rw [← hbx]
  obtain ⟨W2, hW⟩ : ∃ W, W = W1.alloc (.cells #[.slice Ap p.length cp] 25) := ⟨_, rfl⟩
  rw [← hW]
  have K : Below W1.heap.size W1 W2 := by rw [hW]; exact (by repeat (first | exact bR | refine bO ?_ | refine bA ?_ | refine bS ?_ | refine bD ?_ | refine bN ?_))
  have Bp := Lib.hid (show W2.heap[bp]? = some (.cells #[.slice Ap p.length cp] 25 (0, 0)) by rw [hW, hbx]; exact heap_alloc_new _ _)
  clear hW hbx
  replace T := T.trans (K.mono T.size)
  replace Xp := Xp.below K
  clear K Scode
  have Scode := Rcode.below (TV.trans (T.mono s0))
  refine (MakeNum_any (Scode.below (by repeat (first | exact bR | refine bO ?_ | refine bA ?_ | refine bS ?_ | refine bD ?_ | refine bN ?_))) hm ⟨by omega, by omega⟩).mono ?_
  rintro e W3 ⟨zbx, rfl, ⟨za, zb⟩, hb⟩
  have K : Below W2.heap.size W2 W3 := Below.trans (by repeat (first | exact bR | refine bO ?_ | refine bA ?_ | refine bS ?_ | refine bD ?_ | refine bN ?_)) (hb.mono (by first | exact Nat.le_refl _ | simp [ov_size]))
  clear hb
  replace T := T.trans (K.mono T.size)
  replace Bp := box_below Bp K
  replace Xp := Xp.below K
  clear K Scode
  have Scode := Rcode.below (TV.trans (T.mono s0))
  obtain ⟨Bpc0, Bpl⟩ := cb1 Bp
  go_wp2_with fail
  clear Bpc0 Bpl
  obtain ⟨bx, hk⟩ : ∃ k : Int, zbx % 7 - 3 = k := ⟨_, rfl⟩
  rw [hk]
  have kbx : -3 ≤ bx ∧ bx ≤ 3 := by omega
  clear hk za zb
  refine (MakeNum_any (Scode.below (by repeat (first | exact bR | refine bO ?_ | refine bA ?_ | refine bS ?_ | refine bD ?_ | refine bN ?_))) hm ⟨by omega, by omega⟩).mono ?_
  rintro e W4 ⟨zbY, rfl, ⟨za, zb⟩, hb⟩
  have K : Below W3.heap.size W3 W4 := Below.trans (by repeat (first | exact bR | refine bO ?_ | refine bA ?_ | refine bS ?_ | refine bD ?_ | refine bN ?_)) (hb.mono (by first | exact Nat.le_refl _ | simp [ov_size]))
  clear hb
  replace T := T.trans (K.mono T.size)
  replace Bp := box_below Bp K
  replace Xp := Xp.below K
  clear K Scode
  have Scode := Rcode.below (TV.trans (T.mono s0))
  obtain ⟨Bpc0, Bpl⟩ := cb1 Bp
  go_wp2_with fail
  clear Bpc0 Bpl
  obtain ⟨bY, hk⟩ : ∃ k : Int, zbY % 7 - 3 = k := ⟨_, rfl⟩
  rw [hk]
  have kbY : -3 ≤ bY ∧ bY ≤ 3 := by omega
  clear hk za zb
  refine (MakeNum_any (Scode.below (by repeat (first | exact bR | refine bO ?_ | refine bA ?_ | refine bS ?_ | refine bD ?_ | refine bN ?_))) hm ⟨by omega, by omega⟩).mono ?_
  rintro e W5 ⟨zlo, rfl, ⟨za, zb⟩, hb⟩
  have K : Below W4.heap.size W4 W5 := Below.trans (by repeat (first | exact bR | refine bO ?_ | refine bA ?_ | refine bS ?_ | refine bD ?_ | refine bN ?_)) (hb.mono (by first | exact Nat.le_refl _ | simp [ov_size]))
  clear hb
  replace T := T.trans (K.mono T.size)
  replace Bp := box_below Bp K
  replace Xp := Xp.below K
  clear K Scode
  have Scode := Rcode.below (TV.trans (T.mono s0))
  obtain ⟨Bpc0, Bpl⟩ := cb1 Bp
  go_wp2_with fail
  clear Bpc0 Bpl
  obtain ⟨lo, hk⟩ : ∃ k : Int, -(zlo % 8) = k := ⟨_, rfl⟩
  rw [hk]
  have klo : -7 ≤ lo ∧ lo ≤ 0 := by omega
  clear hk za zb
  refine (MakeNum_any (Scode.below (by repeat (first | exact bR | refine bO ?_ | refine bA ?_ | refine bS ?_ | refine bD ?_ | refine bN ?_))) hm ⟨by omega, by omega⟩).mono ?_
  rintro e W6 ⟨zhi, rfl, ⟨za, zb⟩, hb⟩
  have K : Below W5.heap.size W5 W6 := Below.trans (by repeat (first | exact bR | refine bO ?_ | refine bA ?_ | refine bS ?_ | refine bD ?_ | refine bN ?_)) (hb.mono (by first | exact Nat.le_refl _ | simp [ov_size]))
  clear hb
  replace T := T.trans (K.mono T.size)
  replace Bp := box_below Bp K
  replace Xp := Xp.below K
  clear K Scode
  have Scode := Rcode.below (TV.trans (T.mono s0))
  obtain ⟨Bpc0, Bpl⟩ := cb1 Bp
  go_wp2_with fail
  clear Bpc0 Bpl
  obtain ⟨hi, hk⟩ : ∃ k : Int, lo + zhi % 12 = k := ⟨_, rfl⟩
  rw [hk]
  have khi : lo ≤ hi ∧ hi ≤ 11 := by omega
  clear hk za zb
  have GB : GrowSmall bx bY lo hi := ⟨kbx, kbY, klo, khi⟩
  obtain ⟨⟨pg, ok⟩, hpl⟩ : ∃ v, growR p bx bY lo hi = v := ⟨_, rfl⟩
  have HP := Lib.hid hpl
  have KP := Lib.hid kp
  refine (impl_GrowAlong_eq (Xp.below (by repeat (first | exact bR | refine bO ?_ | refine bA ?_ | refine bS ?_ | refine bD ?_ | refine bN ?_))) (by omega) HP).mono ?_
  rintro e W7 ⟨Ag, cg, rfl, Xg, hb⟩
  have K : Below W6.heap.size W6 W7 := Below.trans (by repeat (first | exact bR | refine bO ?_ | refine bA ?_ | refine bS ?_ | refine bD ?_ | refine bN ?_)) (hb.mono (by first | exact Nat.le_refl _ | simp [ov_size]))
  clear hb
  replace T := T.trans (K.mono T.size)
  replace Bp := box_below Bp K
  replace Xp := Xp.below K
  clear K Scode
  have Scode := Rcode.below (TV.trans (T.mono s0))
  replace Xg := Xg.r3
  obtain ⟨Bpc0, Bpl⟩ := cb1 Bp
  go_wp2_with fail
  clear Bpc0 Bpl
  obtain ⟨bg, hbx⟩ : ∃ b, b = W7.heap.size := ⟨_, rfl⟩
  rw [← hbx]
  obtain ⟨W8, hW⟩ : ∃ W, W = W7.alloc (.cells #[.slice Ag pg.length cg] 25) := ⟨_, rfl⟩
  rw [← hW]
  have K : Below W7.heap.size W7 W8 := by rw [hW]; exact (by repeat (first | exact bR | refine bO ?_ | refine bA ?_ | refine bS ?_ | refine bD ?_ | refine bN ?_))
  have Bg := Lib.hid (show W8.heap[bg]? = some (.cells #[.slice Ag pg.length cg] 25 (0, 0)) by rw [hW, hbx]; exact heap_alloc_new _ _)
  clear hW hbx
  replace T := T.trans (K.mono T.size)
  replace Bp := box_below Bp K
  replace Xp := Xp.below K
  replace Xg := Xg.below K
  clear K Scode
  have Scode := Rcode.below (TV.trans (T.mono s0))
  refine (calls_ov (impl_RegionOk_eq (Xp.below (by repeat (first | exact bR | refine bO ?_ | refine bA ?_ | refine bS ?_ | refine bD ?_ | refine bN ?_))) (by omega) KP)).mono ?_
  rintro e w' ⟨rfl, x9, rfl⟩
  obtain ⟨W9, hW⟩ : ∃ Z, Z = ov W8 x9 := ⟨_, rfl⟩
  rw [← hW]
  have K : Below W8.heap.size W8 W9 := by rw [hW]; exact (by repeat (first | exact bR | refine bO ?_ | refine bA ?_ | refine bS ?_ | refine bD ?_ | refine bN ?_))
  clear hW
  replace T := T.trans (K.mono T.size)
  replace Bp := box_below Bp K
  replace Bg := box_below Bg K
  replace Xp := Xp.below K
  replace Xg := Xg.below K
  clear K Scode
  have Scode := Rcode.below (TV.trans (T.mono s0))
  cases ok with
  | false =>
    have hf := grown_fail ApP GB hpl
    by_cases hx0 : bx = 0
    · have hy0 : (bY != 0) = true := by simp; omega
      have hx1 : (bx != 0) = false := by simp; omega
      obtain ⟨Bpc0, Bpl⟩ := cb1 Bp
      obtain ⟨Bgc0, Bgl⟩ := cb1 Bg
      go_wp2
      go_ret
      exact ⟨rfl, (by repeat (first | exact TV.trans (T.mono s0) | refine bO ?_ | refine bA ?_ | refine bS ?_ | refine bD ?_ | refine bN ?_))⟩
    · have hx1 : (bx != 0) = true := by simp; omega
      obtain ⟨Bpc0, Bpl⟩ := cb1 Bp
      obtain ⟨Bgc0, Bgl⟩ := cb1 Bg
      go_wp2
      go_ret
      exact ⟨rfl, (by repeat (first | exact TV.trans (T.mono s0) | refine bO ?_ | refine bA ?_ | refine bS ?_ | refine bD ?_ | refine bN ?_))⟩
  | true =>
    have kg := grown_reg ApP GB hpl
    have KG := Lib.hid kg
    have lg := (region_good kg).2
    obtain ⟨hlo, hhi⟩ := khi
    obtain ⟨klo1, klo2⟩ := klo
    obtain ⟨kbx1, kbx2⟩ := kbx
    obtain ⟨kbY1, kbY2⟩ := kbY
    by_cases h0 : 0 ≤ hi
    · have HW := Lib.hid (grown_within ApP GB hpl klo2 h0)
      obtain ⟨Bpc0, Bpl⟩ := cb1 Bp
      obtain ⟨Bgc0, Bgl⟩ := cb1 Bg
      go_wp2_with fail
      clear Bpc0 Bgc0 Bpl Bgl
      refine (calls_ov (impl_IsWithin_eq (Xp.below (by repeat (first | exact bR | refine bO ?_ | refine bA ?_ | refine bS ?_ | refine bD ?_ | refine bN ?_))) (by omega) (Xg.below (by repeat (first | exact bR | refine bO ?_ | refine bA ?_ | refine bS ?_ | refine bD ?_ | refine bN ?_))) (by omega) HW)).mono ?_
      rintro e w' ⟨rfl, x9, rfl⟩
      obtain ⟨W10, hW⟩ : ∃ Z, Z = ov W9 x9 := ⟨_, rfl⟩
      rw [← hW]
      have K : Below W9.heap.size W9 W10 := by rw [hW]; exact (by repeat (first | exact bR | refine bO ?_ | refine bA ?_ | refine bS ?_ | refine bD ?_ | refine bN ?_))
      clear hW
      replace T := T.trans (K.mono T.size)
      replace Bp := box_below Bp K
      replace Bg := box_below Bg K
      replace Xp := Xp.below K
      replace Xg := Xg.below K
      clear K Scode
      have Scode := Rcode.below (TV.trans (T.mono s0))
      obtain ⟨Bpc0, Bpl⟩ := cb1 Bp
      obtain ⟨Bgc0, Bgl⟩ := cb1 Bg
      go_wp2
      clear Bpc0 Bgc0 Bpl Bgl
      go_loopw [10] (fun i wr => ∃ k : Nat, k ≤ 12 ∧ i = .int .i64 k ∧ Below W10.heap.size W10 wr) (fun i _ => 12 - (intOf i).toNat)
      case atStart => exact ⟨0, by omega, rfl, Below.refl _ _⟩
      case round =>
        obtain ⟨k, hk, rfl, hb0⟩ := hrel
        have K := hb0
        obtain ⟨W50, hW⟩ : ∃ Z, Z = wr := ⟨_, rfl⟩
        rw [← hW] at K hb0 ⊢
        clear hW
        have TC := hb0
        replace T := T.trans (K.mono T.size)
        replace Bp := box_below Bp K
        replace Bg := box_below Bg K
        replace Xp := Xp.below K
        replace Xg := Xg.below K
        clear K Scode
        have Scode := Rcode.below (TV.trans (T.mono s0))
        by_cases hlt : k < 12
        · skip
          obtain ⟨Bpc0, Bpl⟩ := cb1 Bp
          obtain ⟨Bgc0, Bgl⟩ := cb1 Bg
          go_wp2_with fail
          clear Bpc0 Bgc0 Bpl Bgl
          refine (MakeWhole_any (n := 60 + 4 * (k : Int)) (Scode.below (by repeat (first | exact bR | refine bO ?_ | refine bA ?_ | refine bS ?_ | refine bD ?_ | refine bN ?_))) hm ⟨by omega, by omega⟩).mono ?_
          rintro e W51 ⟨x, y, rfl, ⟨bx1, bx2⟩, ⟨by1, by2⟩, hb⟩
          have K : Below W50.heap.size W50 W51 := Below.trans (by repeat (first | exact bR | refine bO ?_ | refine bA ?_ | refine bS ?_ | refine bD ?_ | refine bN ?_)) (hb.mono (by first | exact Nat.le_refl _ | simp [ov_size]))
          clear hb
          replace TC := TC.trans (K.mono TC.size)
          replace T := T.trans (K.mono T.size)
          replace Bp := box_below Bp K
          replace Bg := box_below Bg K
          replace Xp := Xp.below K
          replace Xg := Xg.below K
          clear K Scode
          have Scode := Rcode.below (TV.trans (T.mono s0))
          obtain ⟨Bpc0, Bpl⟩ := cb1 Bp
          obtain ⟨Bgc0, Bgl⟩ := cb1 Bg
          go_wp2_with fail
          clear Bpc0 Bgc0 Bpl Bgl
          obtain ⟨bs, hbx⟩ : ∃ b, b = W51.heap.size := ⟨_, rfl⟩
          rw [← hbx]
          obtain ⟨W52, hW⟩ : ∃ W, W = W51.alloc (.cells #[.int .i64 x, .int .i64 y, .int .i64 1] 31) := ⟨_, rfl⟩
          rw [← hW]
          have K : Below W51.heap.size W51 W52 := by rw [hW]; exact (by repeat (first | exact bR | refine bO ?_ | refine bA ?_ | refine bS ?_ | refine bD ?_ | refine bN ?_))
          have Bs := Lib.hid (show W52.heap[bs]? = some (.cells #[.int .i64 x, .int .i64 y, .int .i64 1] 31 (0, 0)) by rw [hW, hbx]; exact heap_alloc_new _ _)
          clear hW hbx
          replace TC := TC.trans (K.mono TC.size)
          replace T := T.trans (K.mono T.size)
          replace Bp := box_below Bp K
          replace Bg := box_below Bg K
          replace Xp := Xp.below K
          replace Xg := Xg.below K
          clear K Scode
          have Scode := Rcode.below (TV.trans (T.mono s0))
          obtain ⟨Bpc0, Bpl⟩ := cb1 Bp
          obtain ⟨Bgc0, Bgl⟩ := cb1 Bg
          obtain ⟨Bsc0, Bsc1, Bsc2, Bsl⟩ := cb3 Bs
          go_wp2
          clear Bpc0 Bgc0 Bsc0 Bsc1 Bsc2 Bpl Bgl Bsl
          go_loopw [12, 13] (fun sm u wr => ∃ (b : Bool) (j : Int), (lo ≤ j ∧ j ≤ hi + 1) ∧ sm = .bool b ∧ u = .int .i64 j ∧ Hid (b = true → hasSpotR pg x y 1 = true) ∧ Below W52.heap.size W52 wr) (fun _ u _ => (hi + 1 - intOf u).toNat)
          case atStart => exact ⟨false, lo, ⟨by omega, by omega⟩, rfl, rfl, Lib.hid (fun h => by cases h), Below.refl _ _⟩
          case round =>
            obtain ⟨b, j, ⟨hj1, hj2⟩, rfl, rfl, HB, hb0⟩ := hrel
            have K := hb0
            obtain ⟨W70, hW⟩ : ∃ Z, Z = wr := ⟨_, rfl⟩
            rw [← hW] at K hb0 ⊢
            clear hW
            have TD := hb0
            replace TC := TC.trans (K.mono TC.size)
            replace T := T.trans (K.mono T.size)
            replace Bp := box_below Bp K
            replace Bg := box_below Bg K
            replace Bs := box_below Bs K
            replace Xp := Xp.below K
            replace Xg := Xg.below K
            clear K Scode
            have Scode := Rcode.below (TV.trans (T.mono s0))
            by_cases hle : j ≤ hi
            · have m1 := step_bd (u := j) (lo := 0) (hi := 0) (b := bx) (by omega) (by omega)
              have m2 := step_bd (u := j) (lo := 0) (hi := 0) (b := bY) (by omega) (by omega)
              obtain ⟨Bpc0, Bpl⟩ := cb1 Bp
              obtain ⟨Bgc0, Bgl⟩ := cb1 Bg
              obtain ⟨Bsc0, Bsc1, Bsc2, Bsl⟩ := cb3 Bs
              go_wp2_with fail
              clear Bpc0 Bgc0 Bsc0 Bsc1 Bsc2 Bpl Bgl Bsl
              obtain ⟨dx, hdx⟩ : ∃ d, j * bx = d := ⟨_, rfl⟩
              obtain ⟨dy, hdy⟩ : ∃ d, j * bY = d := ⟨_, rfl⟩
              rw [hdx, hdy]
              rw [hdx] at m1
              rw [hdy] at m2
              obtain ⟨hp1, hh2⟩ : ∃ t, hasSpotR p (x + dx) (y + dy) 1 = t := ⟨_, rfl⟩
              have H2 := Lib.hid hh2
              have HN : Hid (hp1 = true → hasSpotR pg x y 1 = true) := Lib.hid fun h => grown_loop ApP GB hpl hj1 hle ⟨bx1, bx2⟩ ⟨by1, by2⟩ (by rw [hdx, hdy, hh2]; exact h)
              clear hdx hdy hh2
              refine (calls_ov (ShiftSpot_whole (by omega) (by omega) (by omega) (by omega) rfl rfl)).mono ?_
              rintro e w' ⟨rfl, x9, rfl⟩
              obtain ⟨W71, hW⟩ : ∃ Z, Z = ov W70 x9 := ⟨_, rfl⟩
              rw [← hW]
              have K : Below W70.heap.size W70 W71 := by rw [hW]; exact (by repeat (first | exact bR | refine bO ?_ | refine bA ?_ | refine bS ?_ | refine bD ?_ | refine bN ?_))
              clear hW
              replace TC := TC.trans (K.mono TC.size)
              replace TD := TD.trans (K.mono TD.size)
              replace T := T.trans (K.mono T.size)
              replace Bp := box_below Bp K
              replace Bg := box_below Bg K
              replace Bs := box_below Bs K
              replace Xp := Xp.below K
              replace Xg := Xg.below K
              clear K Scode
              have Scode := Rcode.below (TV.trans (T.mono s0))
              cases b with
              | true =>
                have TDs := TD.size
                obtain ⟨Bpc0, Bpl⟩ := cb1 Bp
                obtain ⟨Bgc0, Bgl⟩ := cb1 Bg
                obtain ⟨Bsc0, Bsc1, Bsc2, Bsl⟩ := cb3 Bs
                go_wp2
                go_roundw
                case rel => exact ⟨true, j + 1, ⟨by omega, by omega⟩, rfl, by go_num, Lib.hid (fun _ => HB.out (by trivial)), (by repeat (first | exact TD | refine bO ?_ | refine bA ?_ | refine bS ?_ | refine bD ?_ | refine bN ?_))⟩
                case measure => simp [intOf]; omega
              | false =>
                obtain ⟨Bpc0, Bpl⟩ := cb1 Bp
                obtain ⟨Bgc0, Bgl⟩ := cb1 Bg
                obtain ⟨Bsc0, Bsc1, Bsc2, Bsl⟩ := cb3 Bs
                go_wp2_with fail
                clear Bpc0 Bgc0 Bsc0 Bsc1 Bsc2 Bpl Bgl Bsl
                obtain ⟨bx, hbx⟩ : ∃ b, b = W71.heap.size := ⟨_, rfl⟩
                rw [← hbx]
                obtain ⟨W72, hW⟩ : ∃ W, W = W71.alloc (.cells #[.int .i64 (x + dx), .int .i64 (y + dy), .int .i64 1] 31) := ⟨_, rfl⟩
                rw [← hW]
                have K : Below W71.heap.size W71 W72 := by rw [hW]; exact (by repeat (first | exact bR | refine bO ?_ | refine bA ?_ | refine bS ?_ | refine bD ?_ | refine bN ?_))
                have Bx := Lib.hid (show W72.heap[bx]? = some (.cells #[.int .i64 (x + dx), .int .i64 (y + dy), .int .i64 1] 31 (0, 0)) by rw [hW, hbx]; exact heap_alloc_new _ _)
                clear hW hbx
                replace TC := TC.trans (K.mono TC.size)
                replace TD := TD.trans (K.mono TD.size)
                replace T := T.trans (K.mono T.size)
                replace Bp := box_below Bp K
                replace Bg := box_below Bg K
                replace Bs := box_below Bs K
                replace Xp := Xp.below K
                replace Xg := Xg.below K
                clear K Scode
                have Scode := Rcode.below (TV.trans (T.mono s0))
                have TDs := TD.size
                obtain ⟨Bpc0, Bpl⟩ := cb1 Bp
                obtain ⟨Bgc0, Bgl⟩ := cb1 Bg
                obtain ⟨Bsc0, Bsc1, Bsc2, Bsl⟩ := cb3 Bs
                obtain ⟨Bxc0, Bxc1, Bxc2, Bxl⟩ := cb3 Bx
                go_wp2_with (first | (go_at_call 14; (first | (with_reducible refine (calls_ov2 (impl_HasSpot_eq (by exact Xp.below (by repeat (first | exact bR | refine bO ?_ | refine bA ?_ | refine bS ?_ | refine bD ?_ | refine bN ?_))) (by omega) (by exact ⟨by omega, by omega, by omega⟩) (by exact H2))).mono ?_) | refine (calls_ov (impl_HasSpot_eq (by exact Xp.below (by repeat (first | exact bR | refine bO ?_ | refine bA ?_ | refine bS ?_ | refine bD ?_ | refine bN ?_))) (by omega) (by exact ⟨by omega, by omega, by omega⟩) (by exact H2))).mono ?_); rintro e w' ⟨rfl, x, rfl⟩))
                go_roundw
                case rel => exact ⟨hp1, j + 1, ⟨by omega, by omega⟩, rfl, by go_num, HN, (by repeat (first | exact TD | refine bO ?_ | refine bA ?_ | refine bS ?_ | refine bD ?_ | refine bN ?_))⟩
                case measure => simp [intOf]; omega
            · cases b with
              | false =>
                have TCs := TC.size
                obtain ⟨Bpc0, Bpl⟩ := cb1 Bp
                obtain ⟨Bgc0, Bgl⟩ := cb1 Bg
                obtain ⟨Bsc0, Bsc1, Bsc2, Bsl⟩ := cb3 Bs
                go_wp2
                go_roundw
                case rel => exact ⟨k + 1, by omega, by go_num, (by repeat (first | exact TC | refine bO ?_ | refine bA ?_ | refine bS ?_ | refine bD ?_ | refine bN ?_))⟩
                case measure => simp [intOf]; omega
              | true =>
                have H1 := Lib.hid (HB.out (by trivial))
                have TCs := TC.size
                obtain ⟨Bpc0, Bpl⟩ := cb1 Bp
                obtain ⟨Bgc0, Bgl⟩ := cb1 Bg
                obtain ⟨Bsc0, Bsc1, Bsc2, Bsl⟩ := cb3 Bs
                go_wp2_with (first | (go_at_call 14; (first | (with_reducible refine (calls_ov2 (impl_HasSpot_eq (by exact Xg.below (by repeat (first | exact bR | refine bO ?_ | refine bA ?_ | refine bS ?_ | refine bD ?_ | refine bN ?_))) (by omega) (by exact ⟨by omega, by omega, by omega⟩) (by exact H1))).mono ?_) | refine (calls_ov (impl_HasSpot_eq (by exact Xg.below (by repeat (first | exact bR | refine bO ?_ | refine bA ?_ | refine bS ?_ | refine bD ?_ | refine bN ?_))) (by omega) (by exact ⟨by omega, by omega, by omega⟩) (by exact H1))).mono ?_); rintro e w' ⟨rfl, x, rfl⟩))
                go_roundw
                case rel => exact ⟨k + 1, by omega, by go_num, (by repeat (first | exact TC | refine bO ?_ | refine bA ?_ | refine bS ?_ | refine bD ?_ | refine bN ?_))⟩
                case measure => simp [intOf]; omega
        · have HB := TV.trans (T.mono s0)
          have HBs := HB.size
          obtain ⟨Bpc0, Bpl⟩ := cb1 Bp
          obtain ⟨Bgc0, Bgl⟩ := cb1 Bg
          go_wp2_with ((go_at_call 30; (first | (with_reducible refine (calls_ov2 (impl_RegionOk_eq (by exact Xg.below (by repeat (first | exact bR | refine bO ?_ | refine bA ?_ | refine bS ?_ | refine bD ?_ | refine bN ?_))) (by omega) KG)).mono ?_) | refine (calls_ov (impl_RegionOk_eq (by exact Xg.below (by repeat (first | exact bR | refine bO ?_ | refine bA ?_ | refine bS ?_ | refine bD ?_ | refine bN ?_))) (by omega) KG)).mono ?_); rintro e w' ⟨rfl, x, rfl⟩))
          go_ret
          exact ⟨rfl, (by repeat (first | exact HB | refine bO ?_ | refine bA ?_ | refine bS ?_ | refine bD ?_ | refine bN ?_))⟩
    · skip
      obtain ⟨Bpc0, Bpl⟩ := cb1 Bp
      obtain ⟨Bgc0, Bgl⟩ := cb1 Bg
      go_wp2
      clear Bpc0 Bgc0 Bpl Bgl
      go_loopw [10] (fun i wr => ∃ k : Nat, k ≤ 12 ∧ i = .int .i64 k ∧ Below W9.heap.size W9 wr) (fun i _ => 12 - (intOf i).toNat)
      case atStart => exact ⟨0, by omega, rfl, Below.refl _ _⟩
      case round =>
        obtain ⟨k, hk, rfl, hb0⟩ := hrel
        have K := hb0
        obtain ⟨W50, hW⟩ : ∃ Z, Z = wr := ⟨_, rfl⟩
        rw [← hW] at K hb0 ⊢
        clear hW
        have TC := hb0
        replace T := T.trans (K.mono T.size)
        replace Bp := box_below Bp K
        replace Bg := box_below Bg K
        replace Xp := Xp.below K
        replace Xg := Xg.below K
        clear K Scode
        have Scode := Rcode.below (TV.trans (T.mono s0))
        by_cases hlt : k < 12
        · skip
          obtain ⟨Bpc0, Bpl⟩ := cb1 Bp
          obtain ⟨Bgc0, Bgl⟩ := cb1 Bg
          go_wp2_with fail
          clear Bpc0 Bgc0 Bpl Bgl
          refine (MakeWhole_any (n := 60 + 4 * (k : Int)) (Scode.below (by repeat (first | exact bR | refine bO ?_ | refine bA ?_ | refine bS ?_ | refine bD ?_ | refine bN ?_))) hm ⟨by omega, by omega⟩).mono ?_
          rintro e W51 ⟨x, y, rfl, ⟨bx1, bx2⟩, ⟨by1, by2⟩, hb⟩
          have K : Below W50.heap.size W50 W51 := Below.trans (by repeat (first | exact bR | refine bO ?_ | refine bA ?_ | refine bS ?_ | refine bD ?_ | refine bN ?_)) (hb.mono (by first | exact Nat.le_refl _ | simp [ov_size]))
          clear hb
          replace TC := TC.trans (K.mono TC.size)
          replace T := T.trans (K.mono T.size)
          replace Bp := box_below Bp K
          replace Bg := box_below Bg K
          replace Xp := Xp.below K
          replace Xg := Xg.below K
          clear K Scode
          have Scode := Rcode.below (TV.trans (T.mono s0))
          obtain ⟨Bpc0, Bpl⟩ := cb1 Bp
          obtain ⟨Bgc0, Bgl⟩ := cb1 Bg
          go_wp2_with fail
          clear Bpc0 Bgc0 Bpl Bgl
          obtain ⟨bs, hbx⟩ : ∃ b, b = W51.heap.size := ⟨_, rfl⟩
          rw [← hbx]
          obtain ⟨W52, hW⟩ : ∃ W, W = W51.alloc (.cells #[.int .i64 x, .int .i64 y, .int .i64 1] 31) := ⟨_, rfl⟩
          rw [← hW]
          have K : Below W51.heap.size W51 W52 := by rw [hW]; exact (by repeat (first | exact bR | refine bO ?_ | refine bA ?_ | refine bS ?_ | refine bD ?_ | refine bN ?_))
          have Bs := Lib.hid (show W52.heap[bs]? = some (.cells #[.int .i64 x, .int .i64 y, .int .i64 1] 31 (0, 0)) by rw [hW, hbx]; exact heap_alloc_new _ _)
          clear hW hbx
          replace TC := TC.trans (K.mono TC.size)
          replace T := T.trans (K.mono T.size)
          replace Bp := box_below Bp K
          replace Bg := box_below Bg K
          replace Xp := Xp.below K
          replace Xg := Xg.below K
          clear K Scode
          have Scode := Rcode.below (TV.trans (T.mono s0))
          obtain ⟨Bpc0, Bpl⟩ := cb1 Bp
          obtain ⟨Bgc0, Bgl⟩ := cb1 Bg
          obtain ⟨Bsc0, Bsc1, Bsc2, Bsl⟩ := cb3 Bs
          go_wp2
          clear Bpc0 Bgc0 Bsc0 Bsc1 Bsc2 Bpl Bgl Bsl
          go_loopw [12, 13] (fun sm u wr => ∃ (b : Bool) (j : Int), (lo ≤ j ∧ j ≤ hi + 1) ∧ sm = .bool b ∧ u = .int .i64 j ∧ Hid (b = true → hasSpotR pg x y 1 = true) ∧ Below W52.heap.size W52 wr) (fun _ u _ => (hi + 1 - intOf u).toNat)
          case atStart => exact ⟨false, lo, ⟨by omega, by omega⟩, rfl, rfl, Lib.hid (fun h => by cases h), Below.refl _ _⟩
          case round =>
            obtain ⟨b, j, ⟨hj1, hj2⟩, rfl, rfl, HB, hb0⟩ := hrel
            have K := hb0
            obtain ⟨W70, hW⟩ : ∃ Z, Z = wr := ⟨_, rfl⟩
            rw [← hW] at K hb0 ⊢
            clear hW
            have TD := hb0
            replace TC := TC.trans (K.mono TC.size)
            replace T := T.trans (K.mono T.size)
            replace Bp := box_below Bp K
            replace Bg := box_below Bg K
            replace Bs := box_below Bs K
            replace Xp := Xp.below K
            replace Xg := Xg.below K
            clear K Scode
            have Scode := Rcode.below (TV.trans (T.mono s0))
            by_cases hle : j ≤ hi
            · have m1 := step_bd (u := j) (lo := 0) (hi := 0) (b := bx) (by omega) (by omega)
              have m2 := step_bd (u := j) (lo := 0) (hi := 0) (b := bY) (by omega) (by omega)
              obtain ⟨Bpc0, Bpl⟩ := cb1 Bp
              obtain ⟨Bgc0, Bgl⟩ := cb1 Bg
              obtain ⟨Bsc0, Bsc1, Bsc2, Bsl⟩ := cb3 Bs
              go_wp2_with fail
              clear Bpc0 Bgc0 Bsc0 Bsc1 Bsc2 Bpl Bgl Bsl
              obtain ⟨dx, hdx⟩ : ∃ d, j * bx = d := ⟨_, rfl⟩
              obtain ⟨dy, hdy⟩ : ∃ d, j * bY = d := ⟨_, rfl⟩
              rw [hdx, hdy]
              rw [hdx] at m1
              rw [hdy] at m2
              obtain ⟨hp1, hh2⟩ : ∃ t, hasSpotR p (x + dx) (y + dy) 1 = t := ⟨_, rfl⟩
              have H2 := Lib.hid hh2
              have HN : Hid (hp1 = true → hasSpotR pg x y 1 = true) := Lib.hid fun h => grown_loop ApP GB hpl hj1 hle ⟨bx1, bx2⟩ ⟨by1, by2⟩ (by rw [hdx, hdy, hh2]; exact h)
              clear hdx hdy hh2
              refine (calls_ov (ShiftSpot_whole (by omega) (by omega) (by omega) (by omega) rfl rfl)).mono ?_
              rintro e w' ⟨rfl, x9, rfl⟩
              obtain ⟨W71, hW⟩ : ∃ Z, Z = ov W70 x9 := ⟨_, rfl⟩
              rw [← hW]
              have K : Below W70.heap.size W70 W71 := by rw [hW]; exact (by repeat (first | exact bR | refine bO ?_ | refine bA ?_ | refine bS ?_ | refine bD ?_ | refine bN ?_))
              clear hW
              replace TC := TC.trans (K.mono TC.size)
              replace TD := TD.trans (K.mono TD.size)
              replace T := T.trans (K.mono T.size)
              replace Bp := box_below Bp K
              replace Bg := box_below Bg K
              replace Bs := box_below Bs K
              replace Xp := Xp.below K
              replace Xg := Xg.below K
              clear K Scode
              have Scode := Rcode.below (TV.trans (T.mono s0))
              cases b with
              | true =>
                have TDs := TD.size
                obtain ⟨Bpc0, Bpl⟩ := cb1 Bp
                obtain ⟨Bgc0, Bgl⟩ := cb1 Bg
                obtain ⟨Bsc0, Bsc1, Bsc2, Bsl⟩ := cb3 Bs
                go_wp2
                go_roundw
                case rel => exact ⟨true, j + 1, ⟨by omega, by omega⟩, rfl, by go_num, Lib.hid (fun _ => HB.out (by trivial)), (by repeat (first | exact TD | refine bO ?_ | refine bA ?_ | refine bS ?_ | refine bD ?_ | refine bN ?_))⟩
                case measure => simp [intOf]; omega
              | false =>
                obtain ⟨Bpc0, Bpl⟩ := cb1 Bp
                obtain ⟨Bgc0, Bgl⟩ := cb1 Bg
                obtain ⟨Bsc0, Bsc1, Bsc2, Bsl⟩ := cb3 Bs
                go_wp2_with fail
                clear Bpc0 Bgc0 Bsc0 Bsc1 Bsc2 Bpl Bgl Bsl
                obtain ⟨bx, hbx⟩ : ∃ b, b = W71.heap.size := ⟨_, rfl⟩
                rw [← hbx]
                obtain ⟨W72, hW⟩ : ∃ W, W = W71.alloc (.cells #[.int .i64 (x + dx), .int .i64 (y + dy), .int .i64 1] 31) := ⟨_, rfl⟩
                rw [← hW]
                have K : Below W71.heap.size W71 W72 := by rw [hW]; exact (by repeat (first | exact bR | refine bO ?_ | refine bA ?_ | refine bS ?_ | refine bD ?_ | refine bN ?_))
                have Bx := Lib.hid (show W72.heap[bx]? = some (.cells #[.int .i64 (x + dx), .int .i64 (y + dy), .int .i64 1] 31 (0, 0)) by rw [hW, hbx]; exact heap_alloc_new _ _)
                clear hW hbx
                replace TC := TC.trans (K.mono TC.size)
                replace TD := TD.trans (K.mono TD.size)
                replace T := T.trans (K.mono T.size)
                replace Bp := box_below Bp K
                replace Bg := box_below Bg K
                replace Bs := box_below Bs K
                replace Xp := Xp.below K
                replace Xg := Xg.below K
                clear K Scode
                have Scode := Rcode.below (TV.trans (T.mono s0))
                have TDs := TD.size
                obtain ⟨Bpc0, Bpl⟩ := cb1 Bp
                obtain ⟨Bgc0, Bgl⟩ := cb1 Bg
                obtain ⟨Bsc0, Bsc1, Bsc2, Bsl⟩ := cb3 Bs
                obtain ⟨Bxc0, Bxc1, Bxc2, Bxl⟩ := cb3 Bx
                go_wp2_with (first | (go_at_call 14; (first | (with_reducible refine (calls_ov2 (impl_HasSpot_eq (by exact Xp.below (by repeat (first | exact bR | refine bO ?_ | refine bA ?_ | refine bS ?_ | refine bD ?_ | refine bN ?_))) (by omega) (by exact ⟨by omega, by omega, by omega⟩) (by exact H2))).mono ?_) | refine (calls_ov (impl_HasSpot_eq (by exact Xp.below (by repeat (first | exact bR | refine bO ?_ | refine bA ?_ | refine bS ?_ | refine bD ?_ | refine bN ?_))) (by omega) (by exact ⟨by omega, by omega, by omega⟩) (by exact H2))).mono ?_); rintro e w' ⟨rfl, x, rfl⟩))
                go_roundw
                case rel => exact ⟨hp1, j + 1, ⟨by omega, by omega⟩, rfl, by go_num, HN, (by repeat (first | exact TD | refine bO ?_ | refine bA ?_ | refine bS ?_ | refine bD ?_ | refine bN ?_))⟩
                case measure => simp [intOf]; omega
            · cases b with
              | false =>
                have TCs := TC.size
                obtain ⟨Bpc0, Bpl⟩ := cb1 Bp
                obtain ⟨Bgc0, Bgl⟩ := cb1 Bg
                obtain ⟨Bsc0, Bsc1, Bsc2, Bsl⟩ := cb3 Bs
                go_wp2
                go_roundw
                case rel => exact ⟨k + 1, by omega, by go_num, (by repeat (first | exact TC | refine bO ?_ | refine bA ?_ | refine bS ?_ | refine bD ?_ | refine bN ?_))⟩
                case measure => simp [intOf]; omega
              | true =>
                have H1 := Lib.hid (HB.out (by trivial))
                have TCs := TC.size
                obtain ⟨Bpc0, Bpl⟩ := cb1 Bp
                obtain ⟨Bgc0, Bgl⟩ := cb1 Bg
                obtain ⟨Bsc0, Bsc1, Bsc2, Bsl⟩ := cb3 Bs
                go_wp2_with (first | (go_at_call 14; (first | (with_reducible refine (calls_ov2 (impl_HasSpot_eq (by exact Xg.below (by repeat (first | exact bR | refine bO ?_ | refine bA ?_ | refine bS ?_ | refine bD ?_ | refine bN ?_))) (by omega) (by exact ⟨by omega, by omega, by omega⟩) (by exact H1))).mono ?_) | refine (calls_ov (impl_HasSpot_eq (by exact Xg.below (by repeat (first | exact bR | refine bO ?_ | refine bA ?_ | refine bS ?_ | refine bD ?_ | refine bN ?_))) (by omega) (by exact ⟨by omega, by omega, by omega⟩) (by exact H1))).mono ?_); rintro e w' ⟨rfl, x, rfl⟩))
                go_roundw
                case rel => exact ⟨k + 1, by omega, by go_num, (by repeat (first | exact TC | refine bO ?_ | refine bA ?_ | refine bS ?_ | refine bD ?_ | refine bN ?_))⟩
                case measure => simp [intOf]; omega
        · have HB := TV.trans (T.mono s0)
          have HBs := HB.size
          obtain ⟨Bpc0, Bpl⟩ := cb1 Bp
          obtain ⟨Bgc0, Bgl⟩ := cb1 Bg
          go_wp2_with ((go_at_call 30; (first | (with_reducible refine (calls_ov2 (impl_RegionOk_eq (by exact Xg.below (by repeat (first | exact bR | refine bO ?_ | refine bA ?_ | refine bS ?_ | refine bD ?_ | refine bN ?_))) (by omega) KG)).mono ?_) | refine (calls_ov (impl_RegionOk_eq (by exact Xg.below (by repeat (first | exact bR | refine bO ?_ | refine bA ?_ | refine bS ?_ | refine bD ?_ | refine bN ?_))) (by omega) KG)).mono ?_); rintro e w' ⟨rfl, x, rfl⟩))
          go_ret
          exact ⟨rfl, (by repeat (first | exact HB | refine bO ?_ | refine bA ?_ | refine bS ?_ | refine bD ?_ | refine bN ?_))⟩
set_option maxRecDepth 100000 in
theorem FnGrown_lifted (os : Os) (started : os.Started) (H : Type) (enc : TypeId × Value → H) :
    ReturnsInHanded {} Try.checked os 7 .any (Rows.fnGrownSpec.pre6 enc Try.prog Try.f7 Rows.fnGrownRow.domain false) (Rows.fnGrownSpec.post enc Try.prog Try.f7 false true false false) := by
  refine returnsInHanded_of_change (C := Try.checked) own started (by kernel_rfl) Try.func7
    (ChangeSpec.witness6 (enc := enc) (C := Try.checked) false ⟨#[], #[.slice none 0 0], []⟩ 8 (by kernel_rfl) (by kernel_rfl) (by kernel_rfl) (by kernel_rfl)) ?_
  intro W base args ds gs before hval0 hW hcnd _
  have hval : ∀ (j : Nat) t v, Try.f7.params[j]? = some t → args[j]? = some v → Value.okWide Try.prog W .any base t v := hval0
  have hW' := hW
  obtain ⟨p, q, hA0, hV, rfl, hfz, hnd⟩ := hW
  have hA : DataW.TrodAll enc Try.prog W 0 (fun _ => true) true Try.f7.params.toList args.toList ds p := hA0
  rw [Try.params7] at hA hval
  obtain ⟨v0, vs0, d0, ds0, p0, q0, hargs0, rfl, rfl, h0, r0⟩ := trodAll_cons hA
  obtain ⟨rfl, rfl, rfl⟩ := trodAll_nil r0
  obtain rfl : args = #[v0] := by cases args; simp_all
  obtain ⟨rfl, rfl⟩ := trodVars_none hV
  have k0 := h0
  have lt0 : ∀ x ∈ p0, x.block < W.heap.size := by obtain ⟨m, hm⟩ := k0; exact DataW.trod_lt m _ _ _ hm
  have hv0 := hval 0 22 v0 rfl rfl
  obtain ⟨A0, c0, xs0, rfl, RR0, hlen0⟩ := open_bytes hv0 h0
  clear hA0 hval0
  refine (law29_any W RR0 hlen0).mono fun e W' ⟨he, bel⟩ => ?_
  subst he
  exact ⟨_, rfl, _, _, _, [], _, [], hW', trodAll_mk1 (shut_bool Try.underlying4 _), (trodAll_cons_mk (Below.trod laidOut (by kernel_rfl) (of_decide_eq_true (by kernel_rfl)) k0 bel lt0) trodAll_mk0), rfl, bel.frame _, fun h => by cases h⟩

theorem FnGrown_holds : Rows.FnGrownSaid :=
  OpenClaim.holds_of_wide 7 Try.f7 rfl rfl rfl rfl rfl rfl rfl ⟨rfl, rfl, rfl, rfl, rfl⟩ rfl rfl rfl rfl rfl (by kernel_rfl) Try.func7 (by kernel_rfl)
    (of_decide_eq_true (by kernel_rfl)) (by unfold Func.isWrapper; first | (rw [if_pos (by decide +kernel)]; kernel_rfl) | (rw [if_neg (by decide +kernel)]; exact ⟨rfl, rfl⟩))
    (fun os started H enc _ => FnGrown_lifted os started H enc)
#print axioms FnGrown_holds

end Go.Proofs.Ytabmfaamadbefaa
