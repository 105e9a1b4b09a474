/- FnMeets returns true for every argument, and leaves it as it was. No condition. -/
import Derived.Test.YtabmfaamadbefaaObr
import Derived.Test.YtabmfaamadbefaaCe
import Derived.Test.YtabmfaamadbefaaHsp
import Derived.Test.YtabmfaamadbefaaZi
import Derived.Test.YtabmfaamadbefaaMq
import Derived.Test.YtabmfaamadbefaaCg
import Derived.Test.YtabmfaamadbefaaWn
import Derived.Test.YtabmfaamadbefaaWs
set_option linter.unusedVariables false
set_option linter.unusedSimpArgs false
set_option linter.unusedSectionVars false
namespace Go.Proofs.Ytabmfaamadbefaa
open Go.ChangeShapes Go.WideShapes Go.ChangeAt Go.RowKit Go.Joins

set_option maxRecDepth 100000 in
set_option maxHeartbeats 8000000 in
theorem lawM_any {bs : List Int} {A : Option Addr} {c : Nat} (w : World) (Rcode : RY w A bs) (hlen : bs.length ≤ 9223372036854775807) :
    Calls Try.prog 3 #[.slice A bs.length c] w fun e w' => e = .returned (.bool true) ∧ Below w.heap.size w w' := by
  by_cases hm : 1048576 < bs.length
  · go_enter Try.func3, Try.ntmps3
    go_wp2
    go_ret
    exact ⟨rfl, (by repeat (first | exact bR | refine bO ?_ | refine bA ?_ | refine bS ?_ | refine bD ?_ | refine bN ?_))⟩
  replace hm : bs.length ≤ 1048576 := by omega
  go_enter Try.func3, Try.ntmps3
  go_wp2_with fail
  obtain ⟨V, hV⟩ : ∃ V, V = w := ⟨_, rfl⟩
  have TV : Below w.heap.size w V := by rw [hV]; exact Below.refl _ _
  have s0 : w.heap.size ≤ V.heap.size := TV.size
  obtain ⟨W0, hW⟩ : ∃ W0, W0 = w := ⟨_, rfl⟩
  rw [← hW]
  have T : Below V.heap.size V W0 := by rw [hW, hV]; exact Below.refl _ _
  clear hW hV
  have Scode := Rcode.below (TV.trans (T.mono s0))
  refine (MakeArea_any (Scode.below (by repeat (first | exact bR | refine bO ?_ | refine bA ?_ | refine bS ?_ | refine bD ?_ | refine bN ?_))) hm ⟨by omega, by omega⟩).mono ?_
  rintro e W1 ⟨⟨p, Ap, cp, rfl, Xp, kp, ApP⟩, hb⟩
  have K : Below W0.heap.size W0 W1 := Below.trans (by repeat (first | exact bR | refine bO ?_ | refine bA ?_ | refine bS ?_ | refine bD ?_ | refine bN ?_)) (hb.mono (by first | exact Nat.le_refl _ | simp [ov_size]))
  clear hb
  replace T := T.trans (K.mono T.size)
  clear K Scode
  have Scode := Rcode.below (TV.trans (T.mono s0))
  have lp := (region_good kp).2
  go_wp2_with fail
  obtain ⟨bp, hbx⟩ : ∃ b, b = W1.heap.size := ⟨_, rfl⟩
  rw [← hbx]
  obtain ⟨W2, hW⟩ : ∃ W, W = W1.alloc (.cells #[.slice Ap p.length cp] 25) := ⟨_, rfl⟩
  rw [← hW]
  have K : Below W1.heap.size W1 W2 := by rw [hW]; exact (by repeat (first | exact bR | refine bO ?_ | refine bA ?_ | refine bS ?_ | refine bD ?_ | refine bN ?_))
  have Bp := Lib.hid (show W2.heap[bp]? = some (.cells #[.slice Ap p.length cp] 25 (0, 0)) by rw [hW, hbx]; exact heap_alloc_new _ _)
  clear hW hbx
  replace T := T.trans (K.mono T.size)
  replace Xp := Xp.below K
  clear K Scode
  have Scode := Rcode.below (TV.trans (T.mono s0))
  refine (MakeArea_any (Scode.below (by repeat (first | exact bR | refine bO ?_ | refine bA ?_ | refine bS ?_ | refine bD ?_ | refine bN ?_))) hm ⟨by omega, by omega⟩).mono ?_
  rintro e W3 ⟨⟨q, Aq, cq, rfl, Xq, kq, AqP⟩, hb⟩
  have K : Below W2.heap.size W2 W3 := Below.trans (by repeat (first | exact bR | refine bO ?_ | refine bA ?_ | refine bS ?_ | refine bD ?_ | refine bN ?_)) (hb.mono (by first | exact Nat.le_refl _ | simp [ov_size]))
  clear hb
  replace T := T.trans (K.mono T.size)
  replace Bp := box_below Bp K
  replace Xp := Xp.below K
  clear K Scode
  have Scode := Rcode.below (TV.trans (T.mono s0))
  have lq := (region_good kq).2
  obtain ⟨Bpc0, Bpl⟩ := cb1 Bp
  go_wp2_with fail
  clear Bpc0 Bpl
  obtain ⟨bq, hbx⟩ : ∃ b, b = W3.heap.size := ⟨_, rfl⟩
  rw [← hbx]
  obtain ⟨W4, hW⟩ : ∃ W, W = W3.alloc (.cells #[.slice Aq q.length cq] 25) := ⟨_, rfl⟩
  rw [← hW]
  have K : Below W3.heap.size W3 W4 := by rw [hW]; exact (by repeat (first | exact bR | refine bO ?_ | refine bA ?_ | refine bS ?_ | refine bD ?_ | refine bN ?_))
  have Bq := Lib.hid (show W4.heap[bq]? = some (.cells #[.slice Aq q.length cq] 25 (0, 0)) by rw [hW, hbx]; exact heap_alloc_new _ _)
  clear hW hbx
  replace T := T.trans (K.mono T.size)
  replace Bp := box_below Bp K
  replace Xp := Xp.below K
  replace Xq := Xq.below K
  clear K Scode
  have Scode := Rcode.below (TV.trans (T.mono s0))
  obtain ⟨m, hmt, km⟩ := meet_area ApP AqP
  obtain ⟨n, hnt, kn⟩ := meet_area AqP ApP
  have emn := meet_comm hmt hnt km kn
  have ln := (region_good kn).2
  have HM := Lib.hid hmt
  have HN := Lib.hid hnt
  have lm := (region_good km).2
  have HW1 := Lib.hid (meet_left kp hmt km)
  have HW2 := Lib.hid (meet_right kq hmt km)
  have hsame := meet_same kp kq hmt km
  obtain ⟨sb, hsb⟩ : ∃ t, decide (m = p) = t := ⟨_, rfl⟩
  rw [hsb] at hsame
  have HS1 := Lib.hid hsame
  have HS2 := Lib.hid hsb
  have HS3 : Hid (decide (m = n) = true) := Lib.hid (decide_eq_true emn)
  clear hsame hsb emn
  obtain ⟨h0, c0, hp0, k0, hct, kc, hcc⟩ := cut_area ApP AqP
  obtain ⟨hc1, hc2, hc3⟩ := hcc m hmt km
  have lc := (region_good kc).2
  have HC := Lib.hid hct
  have HC1 := Lib.hid hc1
  have HC2 := Lib.hid hc2
  have HP0 := Lib.hid hp0
  clear hcc hct hc1 hc2 hp0 hnt kn
  have hlaw : ∀ x y : Int, (-40 ≤ x ∧ x ≤ 40) → (-40 ≤ y ∧ y ≤ 40) → m ≠ [] → _ := fun x y hx hy => meet_has kp kq hmt km (x := x) (y := y) (by omega) (by omega)
  have HL := Lib.hid hlaw
  clear hlaw hmt
  refine (impl_MeetRegions_eq (by exact Xp.below (by repeat (first | exact bR | refine bO ?_ | refine bA ?_ | refine bS ?_ | refine bD ?_ | refine bN ?_))) (by exact Xq.below (by repeat (first | exact bR | refine bO ?_ | refine bA ?_ | refine bS ?_ | refine bD ?_ | refine bN ?_))) (by omega) (by omega) HM).mono ?_
  rintro e W5 ⟨Am, cm, rfl, Xm, hb⟩
  have K : Below W4.heap.size W4 W5 := Below.trans (by repeat (first | exact bR | refine bO ?_ | refine bA ?_ | refine bS ?_ | refine bD ?_ | refine bN ?_)) (hb.mono (by first | exact Nat.le_refl _ | simp [ov_size]))
  clear hb
  replace T := T.trans (K.mono T.size)
  replace Bp := box_below Bp K
  replace Bq := box_below Bq K
  replace Xp := Xp.below K
  replace Xq := Xq.below K
  clear K Scode
  have Scode := Rcode.below (TV.trans (T.mono s0))
  replace Xm := Xm.r3
  obtain ⟨Bpc0, Bpl⟩ := cb1 Bp
  obtain ⟨Bqc0, Bql⟩ := cb1 Bq
  go_wp2_with fail
  clear Bpc0 Bqc0 Bpl Bql
  obtain ⟨bm, hbx⟩ : ∃ b, b = W5.heap.size := ⟨_, rfl⟩
  rw [← hbx]
  obtain ⟨W6, hW⟩ : ∃ W, W = W5.alloc (.cells #[.slice Am m.length cm] 25) := ⟨_, rfl⟩
  rw [← hW]
  have K : Below W5.heap.size W5 W6 := by rw [hW]; exact (by repeat (first | exact bR | refine bO ?_ | refine bA ?_ | refine bS ?_ | refine bD ?_ | refine bN ?_))
  have Bm := Lib.hid (show W6.heap[bm]? = some (.cells #[.slice Am m.length cm] 25 (0, 0)) by rw [hW, hbx]; exact heap_alloc_new _ _)
  clear hW hbx
  replace T := T.trans (K.mono T.size)
  replace Bp := box_below Bp K
  replace Bq := box_below Bq K
  replace Xp := Xp.below K
  replace Xq := Xq.below K
  replace Xm := Xm.below K
  clear K Scode
  have Scode := Rcode.below (TV.trans (T.mono s0))
  refine (impl_MeetRegions_eq (by exact Xq.below (by repeat (first | exact bR | refine bO ?_ | refine bA ?_ | refine bS ?_ | refine bD ?_ | refine bN ?_))) (by exact Xp.below (by repeat (first | exact bR | refine bO ?_ | refine bA ?_ | refine bS ?_ | refine bD ?_ | refine bN ?_))) (by omega) (by omega) HN).mono ?_
  rintro e W7 ⟨An, cn, rfl, Xn, hb⟩
  have K : Below W6.heap.size W6 W7 := Below.trans (by repeat (first | exact bR | refine bO ?_ | refine bA ?_ | refine bS ?_ | refine bD ?_ | refine bN ?_)) (hb.mono (by first | exact Nat.le_refl _ | simp [ov_size]))
  clear hb
  replace T := T.trans (K.mono T.size)
  replace Bp := box_below Bp K
  replace Bq := box_below Bq K
  replace Bm := box_below Bm K
  replace Xp := Xp.below K
  replace Xq := Xq.below K
  replace Xm := Xm.below K
  clear K Scode
  have Scode := Rcode.below (TV.trans (T.mono s0))
  replace Xn := Xn.r3
  obtain ⟨Bpc0, Bpl⟩ := cb1 Bp
  obtain ⟨Bqc0, Bql⟩ := cb1 Bq
  obtain ⟨Bmc0, Bml⟩ := cb1 Bm
  go_wp2_with fail
  clear Bpc0 Bqc0 Bmc0 Bpl Bql Bml
  obtain ⟨bn, hbx⟩ : ∃ b, b = W7.heap.size := ⟨_, rfl⟩
  rw [← hbx]
  obtain ⟨W8, hW⟩ : ∃ W, W = W7.alloc (.cells #[.slice An n.length cn] 25) := ⟨_, rfl⟩
  rw [← hW]
  have K : Below W7.heap.size W7 W8 := by rw [hW]; exact (by repeat (first | exact bR | refine bO ?_ | refine bA ?_ | refine bS ?_ | refine bD ?_ | refine bN ?_))
  have Bn := Lib.hid (show W8.heap[bn]? = some (.cells #[.slice An n.length cn] 25 (0, 0)) by rw [hW, hbx]; exact heap_alloc_new _ _)
  clear hW hbx
  replace T := T.trans (K.mono T.size)
  replace Bp := box_below Bp K
  replace Bq := box_below Bq K
  replace Bm := box_below Bm K
  replace Xp := Xp.below K
  replace Xq := Xq.below K
  replace Xm := Xm.below K
  replace Xn := Xn.below K
  clear K Scode
  have Scode := Rcode.below (TV.trans (T.mono s0))
  cases sb with
  | true =>
    obtain ⟨Bpc0, Bpl⟩ := cb1 Bp
    obtain ⟨Bqc0, Bql⟩ := cb1 Bq
    obtain ⟨Bmc0, Bml⟩ := cb1 Bm
    obtain ⟨Bnc0, Bnl⟩ := cb1 Bn
    ((first | (with_reducible refine wp_region_calm2 (by kernel_rfl) (by kernel_rfl) ?_) | refine wp_region_calm (by kernel_rfl) (by kernel_rfl) ?_); (repeat (go_big_quiet_step (first | (go_at_call 11; exact calm_below (impl_IsWithin_eq (by exact Xm.below (by repeat (first | exact bR | refine bO ?_ | refine bA ?_ | refine bS ?_ | refine bD ?_ | refine bN ?_))) (by omega) (by exact Xp.below (by repeat (first | exact bR | refine bO ?_ | refine bA ?_ | refine bS ?_ | refine bD ?_ | refine bN ?_))) (by omega) HW1)) | (go_at_call 11; exact calm_below (impl_IsWithin_eq (by exact Xm.below (by repeat (first | exact bR | refine bO ?_ | refine bA ?_ | refine bS ?_ | refine bD ?_ | refine bN ?_))) (by omega) (by exact Xq.below (by repeat (first | exact bR | refine bO ?_ | refine bA ?_ | refine bS ?_ | refine bD ?_ | refine bN ?_))) (by omega) HW2)) | (go_at_call 11; exact calm_below (impl_IsWithin_eq (by exact Xp.below (by repeat (first | exact bR | refine bO ?_ | refine bA ?_ | refine bS ?_ | refine bD ?_ | refine bN ?_))) (by omega) (by exact Xq.below (by repeat (first | exact bR | refine bO ?_ | refine bA ?_ | refine bS ?_ | refine bD ?_ | refine bN ?_))) (by omega) HS1)) | (go_at_call 10; exact calm_below (SameRegion_eq (by exact Xm.below (by repeat (first | exact bR | refine bO ?_ | refine bA ?_ | refine bS ?_ | refine bD ?_ | refine bN ?_))) (by exact Xn.below (by repeat (first | exact bR | refine bO ?_ | refine bA ?_ | refine bS ?_ | refine bD ?_ | refine bN ?_))) (by omega) (by omega) HS3)) | (go_at_call 10; exact calm_below (SameRegion_eq (by exact Xm.below (by repeat (first | exact bR | refine bO ?_ | refine bA ?_ | refine bS ?_ | refine bD ?_ | refine bN ?_))) (by exact Xp.below (by repeat (first | exact bR | refine bO ?_ | refine bA ?_ | refine bS ?_ | refine bD ?_ | refine bN ?_))) (by omega) (by omega) HS2))))); refine wpQuiet_nil ?_; rintro _ ⟨y, rfl⟩)
    clear Bpc0 Bqc0 Bmc0 Bnc0 Bpl Bql Bml Bnl
    obtain ⟨W9, hW⟩ : ∃ Z, Z = ov W8 y := ⟨_, rfl⟩
    rw [← hW]
    have K : Below W8.heap.size W8 W9 := by rw [hW]; exact (by repeat (first | exact bR | refine bO ?_ | refine bA ?_ | refine bS ?_ | refine bD ?_ | refine bN ?_))
    clear hW
    replace T := T.trans (K.mono T.size)
    replace Bp := box_below Bp K
    replace Bq := box_below Bq K
    replace Bm := box_below Bm K
    replace Bn := box_below Bn K
    replace Xp := Xp.below K
    replace Xq := Xq.below K
    replace Xm := Xm.below K
    replace Xn := Xn.below K
    clear K Scode
    have Scode := Rcode.below (TV.trans (T.mono s0))
    obtain ⟨Bpc0, Bpl⟩ := cb1 Bp
    obtain ⟨Bqc0, Bql⟩ := cb1 Bq
    obtain ⟨Bmc0, Bml⟩ := cb1 Bm
    obtain ⟨Bnc0, Bnl⟩ := cb1 Bn
    go_wp2
    clear Bpc0 Bqc0 Bmc0 Bnc0 Bpl Bql Bml Bnl
    go_loopw [9] (fun i wr => ∃ k : Nat, k ≤ 12 ∧ i = .int .i64 k ∧ Below W9.heap.size W9 wr) (fun i _ => 12 - (intOf i).toNat)
    case atStart => exact ⟨0, by omega, rfl, Below.refl _ _⟩
    case round =>
      obtain ⟨k, hk, rfl, hb0⟩ := hrel
      have K := hb0
      obtain ⟨W50, hW⟩ : ∃ Z, Z = wr := ⟨_, rfl⟩
      rw [← hW] at K hb0 ⊢
      clear hW
      have TC := hb0
      replace T := T.trans (K.mono T.size)
      replace Bp := box_below Bp K
      replace Bq := box_below Bq K
      replace Bm := box_below Bm K
      replace Bn := box_below Bn K
      replace Xp := Xp.below K
      replace Xq := Xq.below K
      replace Xm := Xm.below K
      replace Xn := Xn.below K
      clear K Scode
      have Scode := Rcode.below (TV.trans (T.mono s0))
      by_cases hlt : k < 12
      · skip
        obtain ⟨Bpc0, Bpl⟩ := cb1 Bp
        obtain ⟨Bqc0, Bql⟩ := cb1 Bq
        obtain ⟨Bmc0, Bml⟩ := cb1 Bm
        obtain ⟨Bnc0, Bnl⟩ := cb1 Bn
        go_wp2_with fail
        clear Bpc0 Bqc0 Bmc0 Bnc0 Bpl Bql Bml Bnl
        refine (MakeWhole_any (n := 60 + 4 * (k : Int)) (Scode.below (by repeat (first | exact bR | refine bO ?_ | refine bA ?_ | refine bS ?_ | refine bD ?_ | refine bN ?_))) hm ⟨by omega, by omega⟩).mono ?_
        rintro e W51 ⟨x, y, rfl, ⟨bx1, bx2⟩, ⟨by1, by2⟩, hb⟩
        have K : Below W50.heap.size W50 W51 := Below.trans (by repeat (first | exact bR | refine bO ?_ | refine bA ?_ | refine bS ?_ | refine bD ?_ | refine bN ?_)) (hb.mono (by first | exact Nat.le_refl _ | simp [ov_size]))
        clear hb
        replace TC := TC.trans (K.mono TC.size)
        replace T := T.trans (K.mono T.size)
        replace Bp := box_below Bp K
        replace Bq := box_below Bq K
        replace Bm := box_below Bm K
        replace Bn := box_below Bn K
        replace Xp := Xp.below K
        replace Xq := Xq.below K
        replace Xm := Xm.below K
        replace Xn := Xn.below K
        clear K Scode
        have Scode := Rcode.below (TV.trans (T.mono s0))
        obtain ⟨Bpc0, Bpl⟩ := cb1 Bp
        obtain ⟨Bqc0, Bql⟩ := cb1 Bq
        obtain ⟨Bmc0, Bml⟩ := cb1 Bm
        obtain ⟨Bnc0, Bnl⟩ := cb1 Bn
        go_wp2_with fail
        clear Bpc0 Bqc0 Bmc0 Bnc0 Bpl Bql Bml Bnl
        obtain ⟨bs, hbx⟩ : ∃ b, b = W51.heap.size := ⟨_, rfl⟩
        rw [← hbx]
        obtain ⟨W52, hW⟩ : ∃ W, W = W51.alloc (.cells #[.int .i64 x, .int .i64 y, .int .i64 1] 31) := ⟨_, rfl⟩
        rw [← hW]
        have K : Below W51.heap.size W51 W52 := by rw [hW]; exact (by repeat (first | exact bR | refine bO ?_ | refine bA ?_ | refine bS ?_ | refine bD ?_ | refine bN ?_))
        have Bs := Lib.hid (show W52.heap[bs]? = some (.cells #[.int .i64 x, .int .i64 y, .int .i64 1] 31 (0, 0)) by rw [hW, hbx]; exact heap_alloc_new _ _)
        clear hW hbx
        replace TC := TC.trans (K.mono TC.size)
        replace T := T.trans (K.mono T.size)
        replace Bp := box_below Bp K
        replace Bq := box_below Bq K
        replace Bm := box_below Bm K
        replace Bn := box_below Bn K
        replace Xp := Xp.below K
        replace Xq := Xq.below K
        replace Xm := Xm.below K
        replace Xn := Xn.below K
        clear K Scode
        have Scode := Rcode.below (TV.trans (T.mono s0))
        have hl2 := HL.out x y ⟨bx1, bx2⟩ ⟨by1, by2⟩
        obtain ⟨hm1, e1⟩ : ∃ t, hasSpotR m x y 1 = t := ⟨_, rfl⟩
        obtain ⟨hp1, e2⟩ : ∃ t, hasSpotR p x y 1 = t := ⟨_, rfl⟩
        obtain ⟨hq1, e3⟩ : ∃ t, hasSpotR q x y 1 = t := ⟨_, rfl⟩
        obtain ⟨vb, hv⟩ : ∃ t, decide (m.length = 0) = t := ⟨_, rfl⟩
        rw [e1, e2, e3] at hl2
        replace hl2 : vb = false → hm1 = (hp1 && hq1) := fun e => hl2 (fun q => by rw [q] at hv; rw [e] at hv; cases hv)
        have H1 := Lib.hid e1
        have H2 := Lib.hid e2
        have H3 := Lib.hid e3
        have H4 := Lib.hid hv
        clear e1 e2 e3 hv
        cases vb with
        | true =>
          clear hl2
          have TCs := TC.size
          obtain ⟨Bpc0, Bpl⟩ := cb1 Bp
          obtain ⟨Bqc0, Bql⟩ := cb1 Bq
          obtain ⟨Bmc0, Bml⟩ := cb1 Bm
          obtain ⟨Bnc0, Bnl⟩ := cb1 Bn
          obtain ⟨Bsc0, Bsc1, Bsc2, Bsl⟩ := cb3 Bs
          ((first | (with_reducible refine wp_region_calm2 (by kernel_rfl) (by kernel_rfl) ?_) | refine wp_region_calm (by kernel_rfl) (by kernel_rfl) ?_); (repeat (go_big_quiet_step (first | (go_at_call 14; exact calm_below (impl_HasSpot_eq (by exact Xm.below (by repeat (first | exact bR | refine bO ?_ | refine bA ?_ | refine bS ?_ | refine bD ?_ | refine bN ?_))) (by omega) (by exact ⟨by omega, by omega, by omega⟩) H1)) | (go_at_call 14; exact calm_below (impl_HasSpot_eq (by exact Xp.below (by repeat (first | exact bR | refine bO ?_ | refine bA ?_ | refine bS ?_ | refine bD ?_ | refine bN ?_))) (by omega) (by exact ⟨by omega, by omega, by omega⟩) H2)) | (go_at_call 14; exact calm_below (impl_HasSpot_eq (by exact Xq.below (by repeat (first | exact bR | refine bO ?_ | refine bA ?_ | refine bS ?_ | refine bD ?_ | refine bN ?_))) (by omega) (by exact ⟨by omega, by omega, by omega⟩) H3)) | (go_at_call 13; exact calm_below (IsVoid_eq H4))))); refine wpQuiet_nil ?_; rintro _ ⟨y, rfl⟩)
          clear Bpc0 Bqc0 Bmc0 Bnc0 Bsc0 Bsc1 Bsc2 Bpl Bql Bml Bnl Bsl
          obtain ⟨W53, hW⟩ : ∃ Z, Z = ov W52 y := ⟨_, rfl⟩
          rw [← hW]
          have K : Below W52.heap.size W52 W53 := by rw [hW]; exact (by repeat (first | exact bR | refine bO ?_ | refine bA ?_ | refine bS ?_ | refine bD ?_ | refine bN ?_))
          clear hW
          replace TC := TC.trans (K.mono TC.size)
          replace T := T.trans (K.mono T.size)
          replace Bp := box_below Bp K
          replace Bq := box_below Bq K
          replace Bm := box_below Bm K
          replace Bn := box_below Bn K
          replace Bs := box_below Bs K
          replace Xp := Xp.below K
          replace Xq := Xq.below K
          replace Xm := Xm.below K
          replace Xn := Xn.below K
          clear K Scode
          have Scode := Rcode.below (TV.trans (T.mono s0))
          have TCs2 := TC.size
          obtain ⟨Bpc0, Bpl⟩ := cb1 Bp
          obtain ⟨Bqc0, Bql⟩ := cb1 Bq
          obtain ⟨Bmc0, Bml⟩ := cb1 Bm
          obtain ⟨Bnc0, Bnl⟩ := cb1 Bn
          obtain ⟨Bsc0, Bsc1, Bsc2, Bsl⟩ := cb3 Bs
          go_wp2
          go_roundw
          case rel => exact ⟨k + 1, by omega, by go_num, (by repeat (first | exact TC | refine bO ?_ | refine bA ?_ | refine bS ?_ | refine bD ?_ | refine bN ?_))⟩
          case measure => simp [intOf]; omega
        | false =>
          obtain rfl := hl2 rfl
          clear hl2
          cases hp1 with
          | false =>
            have TCs := TC.size
            obtain ⟨Bpc0, Bpl⟩ := cb1 Bp
            obtain ⟨Bqc0, Bql⟩ := cb1 Bq
            obtain ⟨Bmc0, Bml⟩ := cb1 Bm
            obtain ⟨Bnc0, Bnl⟩ := cb1 Bn
            obtain ⟨Bsc0, Bsc1, Bsc2, Bsl⟩ := cb3 Bs
            ((first | (with_reducible refine wp_region_calm2 (by kernel_rfl) (by kernel_rfl) ?_) | refine wp_region_calm (by kernel_rfl) (by kernel_rfl) ?_); (repeat (go_big_quiet_step (first | (go_at_call 14; exact calm_below (impl_HasSpot_eq (by exact Xm.below (by repeat (first | exact bR | refine bO ?_ | refine bA ?_ | refine bS ?_ | refine bD ?_ | refine bN ?_))) (by omega) (by exact ⟨by omega, by omega, by omega⟩) H1)) | (go_at_call 14; exact calm_below (impl_HasSpot_eq (by exact Xp.below (by repeat (first | exact bR | refine bO ?_ | refine bA ?_ | refine bS ?_ | refine bD ?_ | refine bN ?_))) (by omega) (by exact ⟨by omega, by omega, by omega⟩) H2)) | (go_at_call 14; exact calm_below (impl_HasSpot_eq (by exact Xq.below (by repeat (first | exact bR | refine bO ?_ | refine bA ?_ | refine bS ?_ | refine bD ?_ | refine bN ?_))) (by omega) (by exact ⟨by omega, by omega, by omega⟩) H3)) | (go_at_call 13; exact calm_below (IsVoid_eq H4))))); refine wpQuiet_nil ?_; rintro _ ⟨y, rfl⟩)
            clear Bpc0 Bqc0 Bmc0 Bnc0 Bsc0 Bsc1 Bsc2 Bpl Bql Bml Bnl Bsl
            obtain ⟨W54, hW⟩ : ∃ Z, Z = ov W52 y := ⟨_, rfl⟩
            rw [← hW]
            have K : Below W52.heap.size W52 W54 := by rw [hW]; exact (by repeat (first | exact bR | refine bO ?_ | refine bA ?_ | refine bS ?_ | refine bD ?_ | refine bN ?_))
            clear hW
            replace TC := TC.trans (K.mono TC.size)
            replace T := T.trans (K.mono T.size)
            replace Bp := box_below Bp K
            replace Bq := box_below Bq K
            replace Bm := box_below Bm K
            replace Bn := box_below Bn K
            replace Bs := box_below Bs K
            replace Xp := Xp.below K
            replace Xq := Xq.below K
            replace Xm := Xm.below K
            replace Xn := Xn.below K
            clear K Scode
            have Scode := Rcode.below (TV.trans (T.mono s0))
            have TCs2 := TC.size
            obtain ⟨Bpc0, Bpl⟩ := cb1 Bp
            obtain ⟨Bqc0, Bql⟩ := cb1 Bq
            obtain ⟨Bmc0, Bml⟩ := cb1 Bm
            obtain ⟨Bnc0, Bnl⟩ := cb1 Bn
            obtain ⟨Bsc0, Bsc1, Bsc2, Bsl⟩ := cb3 Bs
            go_wp2
            go_roundw
            case rel => exact ⟨k + 1, by omega, by go_num, (by repeat (first | exact TC | refine bO ?_ | refine bA ?_ | refine bS ?_ | refine bD ?_ | refine bN ?_))⟩
            case measure => simp [intOf]; omega
          | true =>
            cases hq1 with
            | true =>
              have TCs := TC.size
              obtain ⟨Bpc0, Bpl⟩ := cb1 Bp
              obtain ⟨Bqc0, Bql⟩ := cb1 Bq
              obtain ⟨Bmc0, Bml⟩ := cb1 Bm
              obtain ⟨Bnc0, Bnl⟩ := cb1 Bn
              obtain ⟨Bsc0, Bsc1, Bsc2, Bsl⟩ := cb3 Bs
              ((first | (with_reducible refine wp_region_calm2 (by kernel_rfl) (by kernel_rfl) ?_) | refine wp_region_calm (by kernel_rfl) (by kernel_rfl) ?_); (repeat (go_big_quiet_step (first | (go_at_call 14; exact calm_below (impl_HasSpot_eq (by exact Xm.below (by repeat (first | exact bR | refine bO ?_ | refine bA ?_ | refine bS ?_ | refine bD ?_ | refine bN ?_))) (by omega) (by exact ⟨by omega, by omega, by omega⟩) H1)) | (go_at_call 14; exact calm_below (impl_HasSpot_eq (by exact Xp.below (by repeat (first | exact bR | refine bO ?_ | refine bA ?_ | refine bS ?_ | refine bD ?_ | refine bN ?_))) (by omega) (by exact ⟨by omega, by omega, by omega⟩) H2)) | (go_at_call 14; exact calm_below (impl_HasSpot_eq (by exact Xq.below (by repeat (first | exact bR | refine bO ?_ | refine bA ?_ | refine bS ?_ | refine bD ?_ | refine bN ?_))) (by omega) (by exact ⟨by omega, by omega, by omega⟩) H3)) | (go_at_call 13; exact calm_below (IsVoid_eq H4))))); refine wpQuiet_nil ?_; rintro _ ⟨y, rfl⟩)
              clear Bpc0 Bqc0 Bmc0 Bnc0 Bsc0 Bsc1 Bsc2 Bpl Bql Bml Bnl Bsl
              obtain ⟨W55, hW⟩ : ∃ Z, Z = ov W52 y := ⟨_, rfl⟩
              rw [← hW]
              have K : Below W52.heap.size W52 W55 := by rw [hW]; exact (by repeat (first | exact bR | refine bO ?_ | refine bA ?_ | refine bS ?_ | refine bD ?_ | refine bN ?_))
              clear hW
              replace TC := TC.trans (K.mono TC.size)
              replace T := T.trans (K.mono T.size)
              replace Bp := box_below Bp K
              replace Bq := box_below Bq K
              replace Bm := box_below Bm K
              replace Bn := box_below Bn K
              replace Bs := box_below Bs K
              replace Xp := Xp.below K
              replace Xq := Xq.below K
              replace Xm := Xm.below K
              replace Xn := Xn.below K
              clear K Scode
              have Scode := Rcode.below (TV.trans (T.mono s0))
              have TCs2 := TC.size
              obtain ⟨Bpc0, Bpl⟩ := cb1 Bp
              obtain ⟨Bqc0, Bql⟩ := cb1 Bq
              obtain ⟨Bmc0, Bml⟩ := cb1 Bm
              obtain ⟨Bnc0, Bnl⟩ := cb1 Bn
              obtain ⟨Bsc0, Bsc1, Bsc2, Bsl⟩ := cb3 Bs
              go_wp2
              go_roundw
              case rel => exact ⟨k + 1, by omega, by go_num, (by repeat (first | exact TC | refine bO ?_ | refine bA ?_ | refine bS ?_ | refine bD ?_ | refine bN ?_))⟩
              case measure => simp [intOf]; omega
            | false =>
              have TCs := TC.size
              obtain ⟨Bpc0, Bpl⟩ := cb1 Bp
              obtain ⟨Bqc0, Bql⟩ := cb1 Bq
              obtain ⟨Bmc0, Bml⟩ := cb1 Bm
              obtain ⟨Bnc0, Bnl⟩ := cb1 Bn
              obtain ⟨Bsc0, Bsc1, Bsc2, Bsl⟩ := cb3 Bs
              ((first | (with_reducible refine wp_region_calm2 (by kernel_rfl) (by kernel_rfl) ?_) | refine wp_region_calm (by kernel_rfl) (by kernel_rfl) ?_); (repeat (go_big_quiet_step (first | (go_at_call 14; exact calm_below (impl_HasSpot_eq (by exact Xm.below (by repeat (first | exact bR | refine bO ?_ | refine bA ?_ | refine bS ?_ | refine bD ?_ | refine bN ?_))) (by omega) (by exact ⟨by omega, by omega, by omega⟩) H1)) | (go_at_call 14; exact calm_below (impl_HasSpot_eq (by exact Xp.below (by repeat (first | exact bR | refine bO ?_ | refine bA ?_ | refine bS ?_ | refine bD ?_ | refine bN ?_))) (by omega) (by exact ⟨by omega, by omega, by omega⟩) H2)) | (go_at_call 14; exact calm_below (impl_HasSpot_eq (by exact Xq.below (by repeat (first | exact bR | refine bO ?_ | refine bA ?_ | refine bS ?_ | refine bD ?_ | refine bN ?_))) (by omega) (by exact ⟨by omega, by omega, by omega⟩) H3)) | (go_at_call 13; exact calm_below (IsVoid_eq H4))))); refine wpQuiet_nil ?_; rintro _ ⟨y, rfl⟩)
              clear Bpc0 Bqc0 Bmc0 Bnc0 Bsc0 Bsc1 Bsc2 Bpl Bql Bml Bnl Bsl
              obtain ⟨W56, hW⟩ : ∃ Z, Z = ov W52 y := ⟨_, rfl⟩
              rw [← hW]
              have K : Below W52.heap.size W52 W56 := by rw [hW]; exact (by repeat (first | exact bR | refine bO ?_ | refine bA ?_ | refine bS ?_ | refine bD ?_ | refine bN ?_))
              clear hW
              replace TC := TC.trans (K.mono TC.size)
              replace T := T.trans (K.mono T.size)
              replace Bp := box_below Bp K
              replace Bq := box_below Bq K
              replace Bm := box_below Bm K
              replace Bn := box_below Bn K
              replace Bs := box_below Bs K
              replace Xp := Xp.below K
              replace Xq := Xq.below K
              replace Xm := Xm.below K
              replace Xn := Xn.below K
              clear K Scode
              have Scode := Rcode.below (TV.trans (T.mono s0))
              have TCs2 := TC.size
              obtain ⟨Bpc0, Bpl⟩ := cb1 Bp
              obtain ⟨Bqc0, Bql⟩ := cb1 Bq
              obtain ⟨Bmc0, Bml⟩ := cb1 Bm
              obtain ⟨Bnc0, Bnl⟩ := cb1 Bn
              obtain ⟨Bsc0, Bsc1, Bsc2, Bsl⟩ := cb3 Bs
              go_wp2
              go_roundw
              case rel => exact ⟨k + 1, by omega, by go_num, (by repeat (first | exact TC | refine bO ?_ | refine bA ?_ | refine bS ?_ | refine bD ?_ | refine bN ?_))⟩
              case measure => simp [intOf]; omega
      · have hl0 : 0 < p.length := (List.getElem?_eq_some_iff.1 HP0.out).1
        have hh0 : p[0] = h0 := (List.getElem?_eq_some_iff.1 HP0.out).2
        have Xp0 := Xp
        obtain ⟨g0, rfl, hg0, z0, z1, z2⟩ := Xp0.at_ hl0
        rw [hh0] at z0 z1 z2
        clear Xp0 hh0
        obtain ⟨ha, hb', hc⟩ := h0
        simp only at z0 z1 z2
        obtain ⟨Bpc0, Bpl⟩ := cb1 Bp
        obtain ⟨Bqc0, Bql⟩ := cb1 Bq
        obtain ⟨Bmc0, Bml⟩ := cb1 Bm
        obtain ⟨Bnc0, Bnl⟩ := cb1 Bn
        go_wp2_with fail
        clear Bpc0 Bqc0 Bmc0 Bnc0 Bpl Bql Bml Bnl
        obtain ⟨bh, hbx⟩ : ∃ b, b = W50.heap.size := ⟨_, rfl⟩
        rw [← hbx]
        obtain ⟨W57, hW⟩ : ∃ W, W = W50.alloc (.cells #[.int .i64 ha, .int .i64 hb', .int .i64 hc] 36) := ⟨_, rfl⟩
        rw [← hW]
        have K : Below W50.heap.size W50 W57 := by rw [hW]; exact (by repeat (first | exact bR | refine bO ?_ | refine bA ?_ | refine bS ?_ | refine bD ?_ | refine bN ?_))
        have Bh := Lib.hid (show W57.heap[bh]? = some (.cells #[.int .i64 ha, .int .i64 hb', .int .i64 hc] 36 (0, 0)) by rw [hW, hbx]; exact heap_alloc_new _ _)
        clear hW hbx
        replace T := T.trans (K.mono T.size)
        replace Bp := box_below Bp K
        replace Bq := box_below Bq K
        replace Bm := box_below Bm K
        replace Bn := box_below Bn K
        replace Xp := Xp.below K
        replace Xq := Xq.below K
        replace Xm := Xm.below K
        replace Xn := Xn.below K
        clear K Scode
        have Scode := Rcode.below (TV.trans (T.mono s0))
        clear z0 z1 z2
        obtain ⟨Bpc0, Bpl⟩ := cb1 Bp
        obtain ⟨Bqc0, Bql⟩ := cb1 Bq
        obtain ⟨Bmc0, Bml⟩ := cb1 Bm
        obtain ⟨Bnc0, Bnl⟩ := cb1 Bn
        obtain ⟨Bhc0, Bhc1, Bhc2, Bhl⟩ := cb3 Bh
        go_wp2_with fail
        clear Bpc0 Bqc0 Bmc0 Bnc0 Bhc0 Bhc1 Bhc2 Bpl Bql Bml Bnl Bhl
        refine (impl_CutRegion_eq (h := ⟨ha, hb', hc⟩) (by exact Xq.below (by repeat (first | exact bR | refine bO ?_ | refine bA ?_ | refine bS ?_ | refine bD ?_ | refine bN ?_))) (by omega) HC).mono ?_
        rintro e W58 ⟨Ac0, cc0, rfl, Xc0, hb⟩
        have K : Below W57.heap.size W57 W58 := Below.trans (by repeat (first | exact bR | refine bO ?_ | refine bA ?_ | refine bS ?_ | refine bD ?_ | refine bN ?_)) (hb.mono (by first | exact Nat.le_refl _ | simp [ov_size]))
        clear hb
        replace T := T.trans (K.mono T.size)
        replace Bp := box_below Bp K
        replace Bq := box_below Bq K
        replace Bm := box_below Bm K
        replace Bn := box_below Bn K
        replace Bh := box_below Bh K
        replace Xp := Xp.below K
        replace Xq := Xq.below K
        replace Xm := Xm.below K
        replace Xn := Xn.below K
        clear K Scode
        have Scode := Rcode.below (TV.trans (T.mono s0))
        replace Xc0 := Xc0.r3
        obtain ⟨Bpc0, Bpl⟩ := cb1 Bp
        obtain ⟨Bqc0, Bql⟩ := cb1 Bq
        obtain ⟨Bmc0, Bml⟩ := cb1 Bm
        obtain ⟨Bnc0, Bnl⟩ := cb1 Bn
        obtain ⟨Bhc0, Bhc1, Bhc2, Bhl⟩ := cb3 Bh
        go_wp2_with fail
        clear Bpc0 Bqc0 Bmc0 Bnc0 Bhc0 Bhc1 Bhc2 Bpl Bql Bml Bnl Bhl
        obtain ⟨bc0, hbx⟩ : ∃ b, b = W58.heap.size := ⟨_, rfl⟩
        rw [← hbx]
        obtain ⟨W59, hW⟩ : ∃ W, W = W58.alloc (.cells #[.slice Ac0 c0.length cc0] 25) := ⟨_, rfl⟩
        rw [← hW]
        have K : Below W58.heap.size W58 W59 := by rw [hW]; exact (by repeat (first | exact bR | refine bO ?_ | refine bA ?_ | refine bS ?_ | refine bD ?_ | refine bN ?_))
        have Bc0 := Lib.hid (show W59.heap[bc0]? = some (.cells #[.slice Ac0 c0.length cc0] 25 (0, 0)) by rw [hW, hbx]; exact heap_alloc_new _ _)
        clear hW hbx
        replace T := T.trans (K.mono T.size)
        replace Bp := box_below Bp K
        replace Bq := box_below Bq K
        replace Bm := box_below Bm K
        replace Bn := box_below Bn K
        replace Bh := box_below Bh K
        replace Xp := Xp.below K
        replace Xq := Xq.below K
        replace Xm := Xm.below K
        replace Xn := Xn.below K
        replace Xc0 := Xc0.below K
        clear K Scode
        have Scode := Rcode.below (TV.trans (T.mono s0))
        obtain ⟨v1, hv1⟩ : ∃ v, wholeN m = v := ⟨_, rfl⟩
        obtain ⟨v2, hv2⟩ : ∃ v, wholeN q = v := ⟨_, rfl⟩
        rw [hv1, hv2] at hc3
        have HV1 := Lib.hid hv1
        have HV2 := Lib.hid hv2
        clear hv1 hv2
        obtain ⟨Bpc0, Bpl⟩ := cb1 Bp
        obtain ⟨Bqc0, Bql⟩ := cb1 Bq
        obtain ⟨Bmc0, Bml⟩ := cb1 Bm
        obtain ⟨Bnc0, Bnl⟩ := cb1 Bn
        obtain ⟨Bhc0, Bhc1, Bhc2, Bhl⟩ := cb3 Bh
        obtain ⟨Bc0c0, Bc0l⟩ := cb1 Bc0
        ((first | (with_reducible refine wp_region_calm2 (by kernel_rfl) (by kernel_rfl) ?_) | refine wp_region_calm (by kernel_rfl) (by kernel_rfl) ?_); (repeat (go_big_quiet_step (first | (go_at_call 11; exact calm_below (impl_IsWithin_eq (by exact Xm.below (by repeat (first | exact bR | refine bO ?_ | refine bA ?_ | refine bS ?_ | refine bD ?_ | refine bN ?_))) (by omega) (by exact Xc0.below (by repeat (first | exact bR | refine bO ?_ | refine bA ?_ | refine bS ?_ | refine bD ?_ | refine bN ?_))) (by omega) HC1)) | (go_at_call 11; exact calm_below (impl_IsWithin_eq (by exact Xc0.below (by repeat (first | exact bR | refine bO ?_ | refine bA ?_ | refine bS ?_ | refine bD ?_ | refine bN ?_))) (by omega) (by exact Xq.below (by repeat (first | exact bR | refine bO ?_ | refine bA ?_ | refine bS ?_ | refine bD ?_ | refine bN ?_))) (by omega) HC2)) | (go_at_call 16; exact calm_below (impl_WholeSpots_eq (by exact Xm.below (by repeat (first | exact bR | refine bO ?_ | refine bA ?_ | refine bS ?_ | refine bD ?_ | refine bN ?_))) (by omega) HV1)) | (go_at_call 16; exact calm_below (impl_WholeSpots_eq (by exact Xq.below (by repeat (first | exact bR | refine bO ?_ | refine bA ?_ | refine bS ?_ | refine bD ?_ | refine bN ?_))) (by omega) HV2))))); refine wpQuiet_nil ?_; rintro _ ⟨y, rfl⟩)
        clear Bpc0 Bqc0 Bmc0 Bnc0 Bhc0 Bhc1 Bhc2 Bc0c0 Bpl Bql Bml Bnl Bhl Bc0l
        obtain ⟨W60, hW⟩ : ∃ Z, Z = ov W59 y := ⟨_, rfl⟩
        rw [← hW]
        have K : Below W59.heap.size W59 W60 := by rw [hW]; exact (by repeat (first | exact bR | refine bO ?_ | refine bA ?_ | refine bS ?_ | refine bD ?_ | refine bN ?_))
        clear hW
        replace T := T.trans (K.mono T.size)
        replace Bp := box_below Bp K
        replace Bq := box_below Bq K
        replace Bm := box_below Bm K
        replace Bn := box_below Bn K
        replace Bh := box_below Bh K
        replace Bc0 := box_below Bc0 K
        replace Xp := Xp.below K
        replace Xq := Xq.below K
        replace Xm := Xm.below K
        replace Xn := Xn.below K
        replace Xc0 := Xc0.below K
        clear K Scode
        have Scode := Rcode.below (TV.trans (T.mono s0))
        obtain ⟨Bpc0, Bpl⟩ := cb1 Bp
        obtain ⟨Bqc0, Bql⟩ := cb1 Bq
        obtain ⟨Bmc0, Bml⟩ := cb1 Bm
        obtain ⟨Bnc0, Bnl⟩ := cb1 Bn
        obtain ⟨Bhc0, Bhc1, Bhc2, Bhl⟩ := cb3 Bh
        obtain ⟨Bc0c0, Bc0l⟩ := cb1 Bc0
        go_wp2
        go_ret
        exact ⟨rfl, (by repeat (first | exact TV.trans (T.mono s0) | refine bO ?_ | refine bA ?_ | refine bS ?_ | refine bD ?_ | refine bN ?_))⟩
  | false =>
    obtain ⟨Bpc0, Bpl⟩ := cb1 Bp
    obtain ⟨Bqc0, Bql⟩ := cb1 Bq
    obtain ⟨Bmc0, Bml⟩ := cb1 Bm
    obtain ⟨Bnc0, Bnl⟩ := cb1 Bn
    ((first | (with_reducible refine wp_region_calm2 (by kernel_rfl) (by kernel_rfl) ?_) | refine wp_region_calm (by kernel_rfl) (by kernel_rfl) ?_); (repeat (go_big_quiet_step (first | (go_at_call 11; exact calm_below (impl_IsWithin_eq (by exact Xm.below (by repeat (first | exact bR | refine bO ?_ | refine bA ?_ | refine bS ?_ | refine bD ?_ | refine bN ?_))) (by omega) (by exact Xp.below (by repeat (first | exact bR | refine bO ?_ | refine bA ?_ | refine bS ?_ | refine bD ?_ | refine bN ?_))) (by omega) HW1)) | (go_at_call 11; exact calm_below (impl_IsWithin_eq (by exact Xm.below (by repeat (first | exact bR | refine bO ?_ | refine bA ?_ | refine bS ?_ | refine bD ?_ | refine bN ?_))) (by omega) (by exact Xq.below (by repeat (first | exact bR | refine bO ?_ | refine bA ?_ | refine bS ?_ | refine bD ?_ | refine bN ?_))) (by omega) HW2)) | (go_at_call 11; exact calm_below (impl_IsWithin_eq (by exact Xp.below (by repeat (first | exact bR | refine bO ?_ | refine bA ?_ | refine bS ?_ | refine bD ?_ | refine bN ?_))) (by omega) (by exact Xq.below (by repeat (first | exact bR | refine bO ?_ | refine bA ?_ | refine bS ?_ | refine bD ?_ | refine bN ?_))) (by omega) HS1)) | (go_at_call 10; exact calm_below (SameRegion_eq (by exact Xm.below (by repeat (first | exact bR | refine bO ?_ | refine bA ?_ | refine bS ?_ | refine bD ?_ | refine bN ?_))) (by exact Xn.below (by repeat (first | exact bR | refine bO ?_ | refine bA ?_ | refine bS ?_ | refine bD ?_ | refine bN ?_))) (by omega) (by omega) HS3)) | (go_at_call 10; exact calm_below (SameRegion_eq (by exact Xm.below (by repeat (first | exact bR | refine bO ?_ | refine bA ?_ | refine bS ?_ | refine bD ?_ | refine bN ?_))) (by exact Xp.below (by repeat (first | exact bR | refine bO ?_ | refine bA ?_ | refine bS ?_ | refine bD ?_ | refine bN ?_))) (by omega) (by omega) HS2))))); refine wpQuiet_nil ?_; rintro _ ⟨y, rfl⟩)
    clear Bpc0 Bqc0 Bmc0 Bnc0 Bpl Bql Bml Bnl
    obtain ⟨W61, hW⟩ : ∃ Z, Z = ov W8 y := ⟨_, rfl⟩
    rw [← hW]
    have K : Below W8.heap.size W8 W61 := by rw [hW]; exact (by repeat (first | exact bR | refine bO ?_ | refine bA ?_ | refine bS ?_ | refine bD ?_ | refine bN ?_))
    clear hW
    replace T := T.trans (K.mono T.size)
    replace Bp := box_below Bp K
    replace Bq := box_below Bq K
    replace Bm := box_below Bm K
    replace Bn := box_below Bn K
    replace Xp := Xp.below K
    replace Xq := Xq.below K
    replace Xm := Xm.below K
    replace Xn := Xn.below K
    clear K Scode
    have Scode := Rcode.below (TV.trans (T.mono s0))
    obtain ⟨Bpc0, Bpl⟩ := cb1 Bp
    obtain ⟨Bqc0, Bql⟩ := cb1 Bq
    obtain ⟨Bmc0, Bml⟩ := cb1 Bm
    obtain ⟨Bnc0, Bnl⟩ := cb1 Bn
    go_wp2
    clear Bpc0 Bqc0 Bmc0 Bnc0 Bpl Bql Bml Bnl
    go_loopw [9] (fun i wr => ∃ k : Nat, k ≤ 12 ∧ i = .int .i64 k ∧ Below W61.heap.size W61 wr) (fun i _ => 12 - (intOf i).toNat)
    case atStart => exact ⟨0, by omega, rfl, Below.refl _ _⟩
    case round =>
      obtain ⟨k, hk, rfl, hb0⟩ := hrel
      have K := hb0
      obtain ⟨W50, hW⟩ : ∃ Z, Z = wr := ⟨_, rfl⟩
      rw [← hW] at K hb0 ⊢
      clear hW
      have TC := hb0
      replace T := T.trans (K.mono T.size)
      replace Bp := box_below Bp K
      replace Bq := box_below Bq K
      replace Bm := box_below Bm K
      replace Bn := box_below Bn K
      replace Xp := Xp.below K
      replace Xq := Xq.below K
      replace Xm := Xm.below K
      replace Xn := Xn.below K
      clear K Scode
      have Scode := Rcode.below (TV.trans (T.mono s0))
      by_cases hlt : k < 12
      · skip
        obtain ⟨Bpc0, Bpl⟩ := cb1 Bp
        obtain ⟨Bqc0, Bql⟩ := cb1 Bq
        obtain ⟨Bmc0, Bml⟩ := cb1 Bm
        obtain ⟨Bnc0, Bnl⟩ := cb1 Bn
        go_wp2_with fail
        clear Bpc0 Bqc0 Bmc0 Bnc0 Bpl Bql Bml Bnl
        refine (MakeWhole_any (n := 60 + 4 * (k : Int)) (Scode.below (by repeat (first | exact bR | refine bO ?_ | refine bA ?_ | refine bS ?_ | refine bD ?_ | refine bN ?_))) hm ⟨by omega, by omega⟩).mono ?_
        rintro e W51 ⟨x, y, rfl, ⟨bx1, bx2⟩, ⟨by1, by2⟩, hb⟩
        have K : Below W50.heap.size W50 W51 := Below.trans (by repeat (first | exact bR | refine bO ?_ | refine bA ?_ | refine bS ?_ | refine bD ?_ | refine bN ?_)) (hb.mono (by first | exact Nat.le_refl _ | simp [ov_size]))
        clear hb
        replace TC := TC.trans (K.mono TC.size)
        replace T := T.trans (K.mono T.size)
        replace Bp := box_below Bp K
        replace Bq := box_below Bq K
        replace Bm := box_below Bm K
        replace Bn := box_below Bn K
        replace Xp := Xp.below K
        replace Xq := Xq.below K
        replace Xm := Xm.below K
        replace Xn := Xn.below K
        clear K Scode
        have Scode := Rcode.below (TV.trans (T.mono s0))
        obtain ⟨Bpc0, Bpl⟩ := cb1 Bp
        obtain ⟨Bqc0, Bql⟩ := cb1 Bq
        obtain ⟨Bmc0, Bml⟩ := cb1 Bm
        obtain ⟨Bnc0, Bnl⟩ := cb1 Bn
        go_wp2_with fail
        clear Bpc0 Bqc0 Bmc0 Bnc0 Bpl Bql Bml Bnl
        obtain ⟨bs, hbx⟩ : ∃ b, b = W51.heap.size := ⟨_, rfl⟩
        rw [← hbx]
        obtain ⟨W52, hW⟩ : ∃ W, W = W51.alloc (.cells #[.int .i64 x, .int .i64 y, .int .i64 1] 31) := ⟨_, rfl⟩
        rw [← hW]
        have K : Below W51.heap.size W51 W52 := by rw [hW]; exact (by repeat (first | exact bR | refine bO ?_ | refine bA ?_ | refine bS ?_ | refine bD ?_ | refine bN ?_))
        have Bs := Lib.hid (show W52.heap[bs]? = some (.cells #[.int .i64 x, .int .i64 y, .int .i64 1] 31 (0, 0)) by rw [hW, hbx]; exact heap_alloc_new _ _)
        clear hW hbx
        replace TC := TC.trans (K.mono TC.size)
        replace T := T.trans (K.mono T.size)
        replace Bp := box_below Bp K
        replace Bq := box_below Bq K
        replace Bm := box_below Bm K
        replace Bn := box_below Bn K
        replace Xp := Xp.below K
        replace Xq := Xq.below K
        replace Xm := Xm.below K
        replace Xn := Xn.below K
        clear K Scode
        have Scode := Rcode.below (TV.trans (T.mono s0))
        have hl2 := HL.out x y ⟨bx1, bx2⟩ ⟨by1, by2⟩
        obtain ⟨hm1, e1⟩ : ∃ t, hasSpotR m x y 1 = t := ⟨_, rfl⟩
        obtain ⟨hp1, e2⟩ : ∃ t, hasSpotR p x y 1 = t := ⟨_, rfl⟩
        obtain ⟨hq1, e3⟩ : ∃ t, hasSpotR q x y 1 = t := ⟨_, rfl⟩
        obtain ⟨vb, hv⟩ : ∃ t, decide (m.length = 0) = t := ⟨_, rfl⟩
        rw [e1, e2, e3] at hl2
        replace hl2 : vb = false → hm1 = (hp1 && hq1) := fun e => hl2 (fun q => by rw [q] at hv; rw [e] at hv; cases hv)
        have H1 := Lib.hid e1
        have H2 := Lib.hid e2
        have H3 := Lib.hid e3
        have H4 := Lib.hid hv
        clear e1 e2 e3 hv
        cases vb with
        | true =>
          clear hl2
          have TCs := TC.size
          obtain ⟨Bpc0, Bpl⟩ := cb1 Bp
          obtain ⟨Bqc0, Bql⟩ := cb1 Bq
          obtain ⟨Bmc0, Bml⟩ := cb1 Bm
          obtain ⟨Bnc0, Bnl⟩ := cb1 Bn
          obtain ⟨Bsc0, Bsc1, Bsc2, Bsl⟩ := cb3 Bs
          ((first | (with_reducible refine wp_region_calm2 (by kernel_rfl) (by kernel_rfl) ?_) | refine wp_region_calm (by kernel_rfl) (by kernel_rfl) ?_); (repeat (go_big_quiet_step (first | (go_at_call 14; exact calm_below (impl_HasSpot_eq (by exact Xm.below (by repeat (first | exact bR | refine bO ?_ | refine bA ?_ | refine bS ?_ | refine bD ?_ | refine bN ?_))) (by omega) (by exact ⟨by omega, by omega, by omega⟩) H1)) | (go_at_call 14; exact calm_below (impl_HasSpot_eq (by exact Xp.below (by repeat (first | exact bR | refine bO ?_ | refine bA ?_ | refine bS ?_ | refine bD ?_ | refine bN ?_))) (by omega) (by exact ⟨by omega, by omega, by omega⟩) H2)) | (go_at_call 14; exact calm_below (impl_HasSpot_eq (by exact Xq.below (by repeat (first | exact bR | refine bO ?_ | refine bA ?_ | refine bS ?_ | refine bD ?_ | refine bN ?_))) (by omega) (by exact ⟨by omega, by omega, by omega⟩) H3)) | (go_at_call 13; exact calm_below (IsVoid_eq H4))))); refine wpQuiet_nil ?_; rintro _ ⟨y, rfl⟩)
          clear Bpc0 Bqc0 Bmc0 Bnc0 Bsc0 Bsc1 Bsc2 Bpl Bql Bml Bnl Bsl
          obtain ⟨W53, hW⟩ : ∃ Z, Z = ov W52 y := ⟨_, rfl⟩
          rw [← hW]
          have K : Below W52.heap.size W52 W53 := by rw [hW]; exact (by repeat (first | exact bR | refine bO ?_ | refine bA ?_ | refine bS ?_ | refine bD ?_ | refine bN ?_))
          clear hW
          replace TC := TC.trans (K.mono TC.size)
          replace T := T.trans (K.mono T.size)
          replace Bp := box_below Bp K
          replace Bq := box_below Bq K
          replace Bm := box_below Bm K
          replace Bn := box_below Bn K
          replace Bs := box_below Bs K
          replace Xp := Xp.below K
          replace Xq := Xq.below K
          replace Xm := Xm.below K
          replace Xn := Xn.below K
          clear K Scode
          have Scode := Rcode.below (TV.trans (T.mono s0))
          have TCs2 := TC.size
          obtain ⟨Bpc0, Bpl⟩ := cb1 Bp
          obtain ⟨Bqc0, Bql⟩ := cb1 Bq
          obtain ⟨Bmc0, Bml⟩ := cb1 Bm
          obtain ⟨Bnc0, Bnl⟩ := cb1 Bn
          obtain ⟨Bsc0, Bsc1, Bsc2, Bsl⟩ := cb3 Bs
          go_wp2
          go_roundw
          case rel => exact ⟨k + 1, by omega, by go_num, (by repeat (first | exact TC | refine bO ?_ | refine bA ?_ | refine bS ?_ | refine bD ?_ | refine bN ?_))⟩
          case measure => simp [intOf]; omega
        | false =>
          obtain rfl := hl2 rfl
          clear hl2
          cases hp1 with
          | false =>
            have TCs := TC.size
            obtain ⟨Bpc0, Bpl⟩ := cb1 Bp
            obtain ⟨Bqc0, Bql⟩ := cb1 Bq
            obtain ⟨Bmc0, Bml⟩ := cb1 Bm
            obtain ⟨Bnc0, Bnl⟩ := cb1 Bn
            obtain ⟨Bsc0, Bsc1, Bsc2, Bsl⟩ := cb3 Bs
            ((first | (with_reducible refine wp_region_calm2 (by kernel_rfl) (by kernel_rfl) ?_) | refine wp_region_calm (by kernel_rfl) (by kernel_rfl) ?_); (repeat (go_big_quiet_step (first | (go_at_call 14; exact calm_below (impl_HasSpot_eq (by exact Xm.below (by repeat (first | exact bR | refine bO ?_ | refine bA ?_ | refine bS ?_ | refine bD ?_ | refine bN ?_))) (by omega) (by exact ⟨by omega, by omega, by omega⟩) H1)) | (go_at_call 14; exact calm_below (impl_HasSpot_eq (by exact Xp.below (by repeat (first | exact bR | refine bO ?_ | refine bA ?_ | refine bS ?_ | refine bD ?_ | refine bN ?_))) (by omega) (by exact ⟨by omega, by omega, by omega⟩) H2)) | (go_at_call 14; exact calm_below (impl_HasSpot_eq (by exact Xq.below (by repeat (first | exact bR | refine bO ?_ | refine bA ?_ | refine bS ?_ | refine bD ?_ | refine bN ?_))) (by omega) (by exact ⟨by omega, by omega, by omega⟩) H3)) | (go_at_call 13; exact calm_below (IsVoid_eq H4))))); refine wpQuiet_nil ?_; rintro _ ⟨y, rfl⟩)
            clear Bpc0 Bqc0 Bmc0 Bnc0 Bsc0 Bsc1 Bsc2 Bpl Bql Bml Bnl Bsl
            obtain ⟨W54, hW⟩ : ∃ Z, Z = ov W52 y := ⟨_, rfl⟩
            rw [← hW]
            have K : Below W52.heap.size W52 W54 := by rw [hW]; exact (by repeat (first | exact bR | refine bO ?_ | refine bA ?_ | refine bS ?_ | refine bD ?_ | refine bN ?_))
            clear hW
            replace TC := TC.trans (K.mono TC.size)
            replace T := T.trans (K.mono T.size)
            replace Bp := box_below Bp K
            replace Bq := box_below Bq K
            replace Bm := box_below Bm K
            replace Bn := box_below Bn K
            replace Bs := box_below Bs K
            replace Xp := Xp.below K
            replace Xq := Xq.below K
            replace Xm := Xm.below K
            replace Xn := Xn.below K
            clear K Scode
            have Scode := Rcode.below (TV.trans (T.mono s0))
            have TCs2 := TC.size
            obtain ⟨Bpc0, Bpl⟩ := cb1 Bp
            obtain ⟨Bqc0, Bql⟩ := cb1 Bq
            obtain ⟨Bmc0, Bml⟩ := cb1 Bm
            obtain ⟨Bnc0, Bnl⟩ := cb1 Bn
            obtain ⟨Bsc0, Bsc1, Bsc2, Bsl⟩ := cb3 Bs
            go_wp2
            go_roundw
            case rel => exact ⟨k + 1, by omega, by go_num, (by repeat (first | exact TC | refine bO ?_ | refine bA ?_ | refine bS ?_ | refine bD ?_ | refine bN ?_))⟩
            case measure => simp [intOf]; omega
          | true =>
            cases hq1 with
            | true =>
              have TCs := TC.size
              obtain ⟨Bpc0, Bpl⟩ := cb1 Bp
              obtain ⟨Bqc0, Bql⟩ := cb1 Bq
              obtain ⟨Bmc0, Bml⟩ := cb1 Bm
              obtain ⟨Bnc0, Bnl⟩ := cb1 Bn
              obtain ⟨Bsc0, Bsc1, Bsc2, Bsl⟩ := cb3 Bs
              ((first | (with_reducible refine wp_region_calm2 (by kernel_rfl) (by kernel_rfl) ?_) | refine wp_region_calm (by kernel_rfl) (by kernel_rfl) ?_); (repeat (go_big_quiet_step (first | (go_at_call 14; exact calm_below (impl_HasSpot_eq (by exact Xm.below (by repeat (first | exact bR | refine bO ?_ | refine bA ?_ | refine bS ?_ | refine bD ?_ | refine bN ?_))) (by omega) (by exact ⟨by omega, by omega, by omega⟩) H1)) | (go_at_call 14; exact calm_below (impl_HasSpot_eq (by exact Xp.below (by repeat (first | exact bR | refine bO ?_ | refine bA ?_ | refine bS ?_ | refine bD ?_ | refine bN ?_))) (by omega) (by exact ⟨by omega, by omega, by omega⟩) H2)) | (go_at_call 14; exact calm_below (impl_HasSpot_eq (by exact Xq.below (by repeat (first | exact bR | refine bO ?_ | refine bA ?_ | refine bS ?_ | refine bD ?_ | refine bN ?_))) (by omega) (by exact ⟨by omega, by omega, by omega⟩) H3)) | (go_at_call 13; exact calm_below (IsVoid_eq H4))))); refine wpQuiet_nil ?_; rintro _ ⟨y, rfl⟩)
              clear Bpc0 Bqc0 Bmc0 Bnc0 Bsc0 Bsc1 Bsc2 Bpl Bql Bml Bnl Bsl
              obtain ⟨W55, hW⟩ : ∃ Z, Z = ov W52 y := ⟨_, rfl⟩
              rw [← hW]
              have K : Below W52.heap.size W52 W55 := by rw [hW]; exact (by repeat (first | exact bR | refine bO ?_ | refine bA ?_ | refine bS ?_ | refine bD ?_ | refine bN ?_))
              clear hW
              replace TC := TC.trans (K.mono TC.size)
              replace T := T.trans (K.mono T.size)
              replace Bp := box_below Bp K
              replace Bq := box_below Bq K
              replace Bm := box_below Bm K
              replace Bn := box_below Bn K
              replace Bs := box_below Bs K
              replace Xp := Xp.below K
              replace Xq := Xq.below K
              replace Xm := Xm.below K
              replace Xn := Xn.below K
              clear K Scode
              have Scode := Rcode.below (TV.trans (T.mono s0))
              have TCs2 := TC.size
              obtain ⟨Bpc0, Bpl⟩ := cb1 Bp
              obtain ⟨Bqc0, Bql⟩ := cb1 Bq
              obtain ⟨Bmc0, Bml⟩ := cb1 Bm
              obtain ⟨Bnc0, Bnl⟩ := cb1 Bn
              obtain ⟨Bsc0, Bsc1, Bsc2, Bsl⟩ := cb3 Bs
              go_wp2
              go_roundw
              case rel => exact ⟨k + 1, by omega, by go_num, (by repeat (first | exact TC | refine bO ?_ | refine bA ?_ | refine bS ?_ | refine bD ?_ | refine bN ?_))⟩
              case measure => simp [intOf]; omega
            | false =>
              have TCs := TC.size
              obtain ⟨Bpc0, Bpl⟩ := cb1 Bp
              obtain ⟨Bqc0, Bql⟩ := cb1 Bq
              obtain ⟨Bmc0, Bml⟩ := cb1 Bm
              obtain ⟨Bnc0, Bnl⟩ := cb1 Bn
              obtain ⟨Bsc0, Bsc1, Bsc2, Bsl⟩ := cb3 Bs
              ((first | (with_reducible refine wp_region_calm2 (by kernel_rfl) (by kernel_rfl) ?_) | refine wp_region_calm (by kernel_rfl) (by kernel_rfl) ?_); (repeat (go_big_quiet_step (first | (go_at_call 14; exact calm_below (impl_HasSpot_eq (by exact Xm.below (by repeat (first | exact bR | refine bO ?_ | refine bA ?_ | refine bS ?_ | refine bD ?_ | refine bN ?_))) (by omega) (by exact ⟨by omega, by omega, by omega⟩) H1)) | (go_at_call 14; exact calm_below (impl_HasSpot_eq (by exact Xp.below (by repeat (first | exact bR | refine bO ?_ | refine bA ?_ | refine bS ?_ | refine bD ?_ | refine bN ?_))) (by omega) (by exact ⟨by omega, by omega, by omega⟩) H2)) | (go_at_call 14; exact calm_below (impl_HasSpot_eq (by exact Xq.below (by repeat (first | exact bR | refine bO ?_ | refine bA ?_ | refine bS ?_ | refine bD ?_ | refine bN ?_))) (by omega) (by exact ⟨by omega, by omega, by omega⟩) H3)) | (go_at_call 13; exact calm_below (IsVoid_eq H4))))); refine wpQuiet_nil ?_; rintro _ ⟨y, rfl⟩)
              clear Bpc0 Bqc0 Bmc0 Bnc0 Bsc0 Bsc1 Bsc2 Bpl Bql Bml Bnl Bsl
              obtain ⟨W56, hW⟩ : ∃ Z, Z = ov W52 y := ⟨_, rfl⟩
              rw [← hW]
              have K : Below W52.heap.size W52 W56 := by rw [hW]; exact (by repeat (first | exact bR | refine bO ?_ | refine bA ?_ | refine bS ?_ | refine bD ?_ | refine bN ?_))
              clear hW
              replace TC := TC.trans (K.mono TC.size)
              replace T := T.trans (K.mono T.size)
              replace Bp := box_below Bp K
              replace Bq := box_below Bq K
              replace Bm := box_below Bm K
              replace Bn := box_below Bn K
              replace Bs := box_below Bs K
              replace Xp := Xp.below K
              replace Xq := Xq.below K
              replace Xm := Xm.below K
              replace Xn := Xn.below K
              clear K Scode
              have Scode := Rcode.below (TV.trans (T.mono s0))
              have TCs2 := TC.size
              obtain ⟨Bpc0, Bpl⟩ := cb1 Bp
              obtain ⟨Bqc0, Bql⟩ := cb1 Bq
              obtain ⟨Bmc0, Bml⟩ := cb1 Bm
              obtain ⟨Bnc0, Bnl⟩ := cb1 Bn
              obtain ⟨Bsc0, Bsc1, Bsc2, Bsl⟩ := cb3 Bs
              go_wp2
              go_roundw
              case rel => exact ⟨k + 1, by omega, by go_num, (by repeat (first | exact TC | refine bO ?_ | refine bA ?_ | refine bS ?_ | refine bD ?_ | refine bN ?_))⟩
              case measure => simp [intOf]; omega
      · have hl0 : 0 < p.length := (List.getElem?_eq_some_iff.1 HP0.out).1
        have hh0 : p[0] = h0 := (List.getElem?_eq_some_iff.1 HP0.out).2
        have Xp0 := Xp
        obtain ⟨g0, rfl, hg0, z0, z1, z2⟩ := Xp0.at_ hl0
        rw [hh0] at z0 z1 z2
        clear Xp0 hh0
        obtain ⟨ha, hb', hc⟩ := h0
        simp only at z0 z1 z2
        obtain ⟨Bpc0, Bpl⟩ := cb1 Bp
        obtain ⟨Bqc0, Bql⟩ := cb1 Bq
        obtain ⟨Bmc0, Bml⟩ := cb1 Bm
        obtain ⟨Bnc0, Bnl⟩ := cb1 Bn
        go_wp2_with fail
        clear Bpc0 Bqc0 Bmc0 Bnc0 Bpl Bql Bml Bnl
        obtain ⟨bh, hbx⟩ : ∃ b, b = W50.heap.size := ⟨_, rfl⟩
        rw [← hbx]
        obtain ⟨W57, hW⟩ : ∃ W, W = W50.alloc (.cells #[.int .i64 ha, .int .i64 hb', .int .i64 hc] 36) := ⟨_, rfl⟩
        rw [← hW]
        have K : Below W50.heap.size W50 W57 := by rw [hW]; exact (by repeat (first | exact bR | refine bO ?_ | refine bA ?_ | refine bS ?_ | refine bD ?_ | refine bN ?_))
        have Bh := Lib.hid (show W57.heap[bh]? = some (.cells #[.int .i64 ha, .int .i64 hb', .int .i64 hc] 36 (0, 0)) by rw [hW, hbx]; exact heap_alloc_new _ _)
        clear hW hbx
        replace T := T.trans (K.mono T.size)
        replace Bp := box_below Bp K
        replace Bq := box_below Bq K
        replace Bm := box_below Bm K
        replace Bn := box_below Bn K
        replace Xp := Xp.below K
        replace Xq := Xq.below K
        replace Xm := Xm.below K
        replace Xn := Xn.below K
        clear K Scode
        have Scode := Rcode.below (TV.trans (T.mono s0))
        clear z0 z1 z2
        obtain ⟨Bpc0, Bpl⟩ := cb1 Bp
        obtain ⟨Bqc0, Bql⟩ := cb1 Bq
        obtain ⟨Bmc0, Bml⟩ := cb1 Bm
        obtain ⟨Bnc0, Bnl⟩ := cb1 Bn
        obtain ⟨Bhc0, Bhc1, Bhc2, Bhl⟩ := cb3 Bh
        go_wp2_with fail
        clear Bpc0 Bqc0 Bmc0 Bnc0 Bhc0 Bhc1 Bhc2 Bpl Bql Bml Bnl Bhl
        refine (impl_CutRegion_eq (h := ⟨ha, hb', hc⟩) (by exact Xq.below (by repeat (first | exact bR | refine bO ?_ | refine bA ?_ | refine bS ?_ | refine bD ?_ | refine bN ?_))) (by omega) HC).mono ?_
        rintro e W58 ⟨Ac0, cc0, rfl, Xc0, hb⟩
        have K : Below W57.heap.size W57 W58 := Below.trans (by repeat (first | exact bR | refine bO ?_ | refine bA ?_ | refine bS ?_ | refine bD ?_ | refine bN ?_)) (hb.mono (by first | exact Nat.le_refl _ | simp [ov_size]))
        clear hb
        replace T := T.trans (K.mono T.size)
        replace Bp := box_below Bp K
        replace Bq := box_below Bq K
        replace Bm := box_below Bm K
        replace Bn := box_below Bn K
        replace Bh := box_below Bh K
        replace Xp := Xp.below K
        replace Xq := Xq.below K
        replace Xm := Xm.below K
        replace Xn := Xn.below K
        clear K Scode
        have Scode := Rcode.below (TV.trans (T.mono s0))
        replace Xc0 := Xc0.r3
        obtain ⟨Bpc0, Bpl⟩ := cb1 Bp
        obtain ⟨Bqc0, Bql⟩ := cb1 Bq
        obtain ⟨Bmc0, Bml⟩ := cb1 Bm
        obtain ⟨Bnc0, Bnl⟩ := cb1 Bn
        obtain ⟨Bhc0, Bhc1, Bhc2, Bhl⟩ := cb3 Bh
        go_wp2_with fail
        clear Bpc0 Bqc0 Bmc0 Bnc0 Bhc0 Bhc1 Bhc2 Bpl Bql Bml Bnl Bhl
        obtain ⟨bc0, hbx⟩ : ∃ b, b = W58.heap.size := ⟨_, rfl⟩
        rw [← hbx]
        obtain ⟨W59, hW⟩ : ∃ W, W = W58.alloc (.cells #[.slice Ac0 c0.length cc0] 25) := ⟨_, rfl⟩
        rw [← hW]
        have K : Below W58.heap.size W58 W59 := by rw [hW]; exact (by repeat (first | exact bR | refine bO ?_ | refine bA ?_ | refine bS ?_ | refine bD ?_ | refine bN ?_))
        have Bc0 := Lib.hid (show W59.heap[bc0]? = some (.cells #[.slice Ac0 c0.length cc0] 25 (0, 0)) by rw [hW, hbx]; exact heap_alloc_new _ _)
        clear hW hbx
        replace T := T.trans (K.mono T.size)
        replace Bp := box_below Bp K
        replace Bq := box_below Bq K
        replace Bm := box_below Bm K
        replace Bn := box_below Bn K
        replace Bh := box_below Bh K
        replace Xp := Xp.below K
        replace Xq := Xq.below K
        replace Xm := Xm.below K
        replace Xn := Xn.below K
        replace Xc0 := Xc0.below K
        clear K Scode
        have Scode := Rcode.below (TV.trans (T.mono s0))
        obtain ⟨v1, hv1⟩ : ∃ v, wholeN m = v := ⟨_, rfl⟩
        obtain ⟨v2, hv2⟩ : ∃ v, wholeN q = v := ⟨_, rfl⟩
        rw [hv1, hv2] at hc3
        have HV1 := Lib.hid hv1
        have HV2 := Lib.hid hv2
        clear hv1 hv2
        obtain ⟨Bpc0, Bpl⟩ := cb1 Bp
        obtain ⟨Bqc0, Bql⟩ := cb1 Bq
        obtain ⟨Bmc0, Bml⟩ := cb1 Bm
        obtain ⟨Bnc0, Bnl⟩ := cb1 Bn
        obtain ⟨Bhc0, Bhc1, Bhc2, Bhl⟩ := cb3 Bh
        obtain ⟨Bc0c0, Bc0l⟩ := cb1 Bc0
        ((first | (with_reducible refine wp_region_calm2 (by kernel_rfl) (by kernel_rfl) ?_) | refine wp_region_calm (by kernel_rfl) (by kernel_rfl) ?_); (repeat (go_big_quiet_step (first | (go_at_call 11; exact calm_below (impl_IsWithin_eq (by exact Xm.below (by repeat (first | exact bR | refine bO ?_ | refine bA ?_ | refine bS ?_ | refine bD ?_ | refine bN ?_))) (by omega) (by exact Xc0.below (by repeat (first | exact bR | refine bO ?_ | refine bA ?_ | refine bS ?_ | refine bD ?_ | refine bN ?_))) (by omega) HC1)) | (go_at_call 11; exact calm_below (impl_IsWithin_eq (by exact Xc0.below (by repeat (first | exact bR | refine bO ?_ | refine bA ?_ | refine bS ?_ | refine bD ?_ | refine bN ?_))) (by omega) (by exact Xq.below (by repeat (first | exact bR | refine bO ?_ | refine bA ?_ | refine bS ?_ | refine bD ?_ | refine bN ?_))) (by omega) HC2)) | (go_at_call 16; exact calm_below (impl_WholeSpots_eq (by exact Xm.below (by repeat (first | exact bR | refine bO ?_ | refine bA ?_ | refine bS ?_ | refine bD ?_ | refine bN ?_))) (by omega) HV1)) | (go_at_call 16; exact calm_below (impl_WholeSpots_eq (by exact Xq.below (by repeat (first | exact bR | refine bO ?_ | refine bA ?_ | refine bS ?_ | refine bD ?_ | refine bN ?_))) (by omega) HV2))))); refine wpQuiet_nil ?_; rintro _ ⟨y, rfl⟩)
        clear Bpc0 Bqc0 Bmc0 Bnc0 Bhc0 Bhc1 Bhc2 Bc0c0 Bpl Bql Bml Bnl Bhl Bc0l
        obtain ⟨W60, hW⟩ : ∃ Z, Z = ov W59 y := ⟨_, rfl⟩
        rw [← hW]
        have K : Below W59.heap.size W59 W60 := by rw [hW]; exact (by repeat (first | exact bR | refine bO ?_ | refine bA ?_ | refine bS ?_ | refine bD ?_ | refine bN ?_))
        clear hW
        replace T := T.trans (K.mono T.size)
        replace Bp := box_below Bp K
        replace Bq := box_below Bq K
        replace Bm := box_below Bm K
        replace Bn := box_below Bn K
        replace Bh := box_below Bh K
        replace Bc0 := box_below Bc0 K
        replace Xp := Xp.below K
        replace Xq := Xq.below K
        replace Xm := Xm.below K
        replace Xn := Xn.below K
        replace Xc0 := Xc0.below K
        clear K Scode
        have Scode := Rcode.below (TV.trans (T.mono s0))
        obtain ⟨Bpc0, Bpl⟩ := cb1 Bp
        obtain ⟨Bqc0, Bql⟩ := cb1 Bq
        obtain ⟨Bmc0, Bml⟩ := cb1 Bm
        obtain ⟨Bnc0, Bnl⟩ := cb1 Bn
        obtain ⟨Bhc0, Bhc1, Bhc2, Bhl⟩ := cb3 Bh
        obtain ⟨Bc0c0, Bc0l⟩ := cb1 Bc0
        go_wp2
        go_ret
        exact ⟨rfl, (by repeat (first | exact TV.trans (T.mono s0) | refine bO ?_ | refine bA ?_ | refine bS ?_ | refine bD ?_ | refine bN ?_))⟩
set_option maxRecDepth 100000 in
theorem FnMeets_lifted (os : Os) (started : os.Started) (H : Type) (enc : TypeId × Value → H) :
    ReturnsInHanded {} Try.checked os 3 .any (Rows.fnMeetsSpec.pre6 enc Try.prog Try.f3 Rows.fnMeetsRow.domain false) (Rows.fnMeetsSpec.post enc Try.prog Try.f3 false true false false) := by
  refine returnsInHanded_of_change (C := Try.checked) own started (by kernel_rfl) Try.func3
    (ChangeSpec.witness6 (enc := enc) (C := Try.checked) false ⟨#[], #[.slice none 0 0], []⟩ 8 (by kernel_rfl) (by kernel_rfl) (by kernel_rfl) (by kernel_rfl)) ?_
  intro W base args ds gs before hval0 hW hcnd _
  have hval : ∀ (j : Nat) t v, Try.f3.params[j]? = some t → args[j]? = some v → Value.okWide Try.prog W .any base t v := hval0
  have hW' := hW
  obtain ⟨p, q, hA0, hV, rfl, hfz, hnd⟩ := hW
  have hA : DataW.TrodAll enc Try.prog W 0 (fun _ => true) true Try.f3.params.toList args.toList ds p := hA0
  rw [Try.params3] at hA hval
  obtain ⟨v0, vs0, d0, ds0, p0, q0, hargs0, rfl, rfl, h0, r0⟩ := trodAll_cons hA
  obtain ⟨rfl, rfl, rfl⟩ := trodAll_nil r0
  obtain rfl : args = #[v0] := by cases args; simp_all
  obtain ⟨rfl, rfl⟩ := trodVars_none hV
  have k0 := h0
  have lt0 : ∀ x ∈ p0, x.block < W.heap.size := by obtain ⟨m, hm⟩ := k0; exact DataW.trod_lt m _ _ _ hm
  have hv0 := hval 0 22 v0 rfl rfl
  obtain ⟨A0, c0, xs0, rfl, RR0, hlen0⟩ := open_bytes hv0 h0
  clear hA0 hval0
  refine (lawM_any W RR0 hlen0).mono fun e W' ⟨he, bel⟩ => ?_
  subst he
  exact ⟨_, rfl, _, _, _, [], _, [], hW', trodAll_mk1 (shut_bool Try.underlying4 _), (trodAll_cons_mk (Below.trod laidOut (by kernel_rfl) (of_decide_eq_true (by kernel_rfl)) k0 bel lt0) trodAll_mk0), rfl, bel.frame _, fun h => by cases h⟩

theorem FnMeets_holds : Rows.FnMeetsSaid :=
  OpenClaim.holds_of_wide 3 Try.f3 rfl rfl rfl rfl rfl rfl rfl ⟨rfl, rfl, rfl, rfl, rfl⟩ rfl rfl rfl rfl rfl (by kernel_rfl) Try.func3 (by kernel_rfl)
    (of_decide_eq_true (by kernel_rfl)) (by unfold Func.isWrapper; first | (rw [if_pos (by decide +kernel)]; kernel_rfl) | (rw [if_neg (by decide +kernel)]; exact ⟨rfl, rfl⟩))
    (fun os started H enc _ => FnMeets_lifted os started H enc)
#print axioms FnMeets_holds

end Go.Proofs.Ytabmfaamadbefaa
