/- FnRanges returns true for every argument, and leaves it as it was. No condition. -/
import Derived.Test.YtabmfaamadbefaaGreatQz
import Derived.Test.YtabmfaamadbefaaGreatCst
import Derived.Test.YtabmfaamadbefaaGreatZs
import Derived.Test.YtabmfaamadbefaaGreatQg
import Derived.Test.YtabmfaamadbefaaGreatWn
set_option linter.unusedVariables false
set_option linter.unusedSimpArgs false
set_option linter.unusedSectionVars false
namespace Go.Proofs.YtabmfaamadbefaaGreat
open Go.ChangeShapes Go.WideShapes Go.ChangeAt Go.RowKit Go.Joins
set_option maxRecDepth 100000 in
set_option maxHeartbeats 8000000 in
theorem lawR_any {bs : List Int} {A : Option Addr} {c : Nat} (w : World) (Rcode : RY w A bs) (hlen : bs.length ≤ 9223372036854775807) :
    Calls Tryz.prog 3 #[.slice A bs.length c] w fun e w' => e = .returned (.bool true) ∧ Below w.heap.size w w' := by
  by_cases hm : 1048576 < bs.length
  · go_enter Tryz.func3, Tryz.ntmps3
    go_wp2
    go_ret
    exact ⟨rfl, (by repeat (first | exact bR | refine bO ?_ | refine bA ?_ | refine bS ?_ | refine bD ?_ | refine bN ?_))⟩
  replace hm : bs.length ≤ 1048576 := by omega
  go_enter Tryz.func3, Tryz.ntmps3
  go_wp2_with fail
  obtain ⟨V, hV⟩ : ∃ V, V = w := ⟨_, rfl⟩
  have TV : Below w.heap.size w V := by rw [hV]; exact Below.refl _ _
  have s0 : w.heap.size ≤ V.heap.size := TV.size
  obtain ⟨W0, hW⟩ : ∃ W0, W0 = w := ⟨_, rfl⟩
  rw [← hW]
  have T : Below V.heap.size V W0 := by rw [hW, hV]; exact Below.refl _ _
  clear hW hV
  have Scode := Rcode.below (TV.trans (T.mono s0))
  refine (MakeRoom_any (Scode.below (by repeat (first | exact bR | refine bO ?_ | refine bA ?_ | refine bS ?_ | refine bD ?_ | refine bN ?_))) hm).mono ?_
  rintro e W1 ⟨r, gr, cr1, Ar2, cr2, Ar3, cr3, rfl, Xr, D, hb⟩
  have K : Below W0.heap.size W0 W1 := Below.trans (by repeat (first | exact bR | refine bO ?_ | refine bA ?_ | refine bS ?_ | refine bD ?_ | refine bN ?_)) (hb.mono (by first | exact Nat.le_refl _ | simp [ov_size]))
  clear hb
  replace T := T.trans (K.mono T.size)
  clear K Scode
  have Scode := Rcode.below (TV.trans (T.mono s0))
  have hsr := short_room D
  go_wp2_with fail
  obtain ⟨br, hbx⟩ : ∃ b, b = W1.heap.size := ⟨_, rfl⟩
  rw [← hbx]
  obtain ⟨W2, hW⟩ : ∃ W, W = W1.alloc (.cells #[.slice (some ⟨gr, 0, none⟩) r.m.length cr1, .int .i64 r.q, .int .i64 r.bx, .int .i64 r.by_, .int .i64 r.lo, .int .i64 r.hi, .slice Ar2 r.ns.length cr2, .slice Ar3 r.ls.length cr3] 28) := ⟨_, rfl⟩
  rw [← hW]
  have K : Below W1.heap.size W1 W2 := by rw [hW]; exact (by repeat (first | exact bR | refine bO ?_ | refine bA ?_ | refine bS ?_ | refine bD ?_ | refine bN ?_))
  have Br := Lib.hid (show W2.heap[br]? = some (.cells #[.slice (some ⟨gr, 0, none⟩) r.m.length cr1, .int .i64 r.q, .int .i64 r.bx, .int .i64 r.by_, .int .i64 r.lo, .int .i64 r.hi, .slice Ar2 r.ns.length cr2, .slice Ar3 r.ls.length cr3] 28 (0, 0)) by rw [hW, hbx]; exact heap_alloc_new _ _)
  clear hW hbx
  replace T := T.trans (K.mono T.size)
  replace Xr := Xr.below K
  clear K Scode
  have Scode := Rcode.below (TV.trans (T.mono s0))
  have hwr := range_with D
  have hx := room_range D
  obtain ⟨x, hxe⟩ : ∃ x, rangeX r (r.lo - 2) (r.hi + 3) = x := ⟨_, rfl⟩
  have hsx : x.Short := by rw [← hxe]; exact ⟨hsr.m, hsr.ns, hsr.ls⟩
  have hwn := noise_with D
  have hsn := noise_same r
  obtain ⟨n, hne⟩ : ∃ n, noiseX r r.ns = n := ⟨_, rfl⟩
  have hnn : n.Short := by rw [← hne]; exact ⟨hsr.m, hsr.ns, hsr.ls⟩
  obtain ⟨⟨p, one⟩, hp⟩ : ∃ v, keptR r = v := ⟨_, rfl⟩
  obtain ⟨⟨q, two⟩, hq⟩ : ∃ v, keptR x = v := ⟨_, rfl⟩
  have hlaw : one = true → two = true → isWithinR p q = true := fun e1 e2 => ranges_within (r := r) (by rw [hp, e1]) (by rw [hxe, hq, e2])
  have lp := (region_good (keptR_reg hp)).2
  have lq := (region_good (keptR_reg hq)).2
  have hnl : r.ns.length ≤ 4 := Nat.le_of_eq (noise_reg D).2.2
  have lo := D.lo
  have hi := D.hi
  rw [hne] at hsn
  have HWR : Hid (withR r (rangeX r (r.lo - 2) (r.hi + 3)) = (x, true)) := Lib.hid (hwr.trans (by rw [hxe]))
  have HWN : Hid (withR r (noiseX r r.ns) = (n, true)) := Lib.hid (hwn.trans (by rw [hne]))
  have HSN := Lib.hid hsn
  have HP := Lib.hid hp
  have HQ := Lib.hid hq
  have HL := Lib.hid hlaw
  have HRO := Lib.hid (room_ok D)
  clear hwr hx hxe hwn hsn hne hp hq hlaw
  obtain ⟨lo1, lo2⟩ := lo
  obtain ⟨hi1, hi2⟩ := hi
  obtain ⟨Brc0, Brc1, Brc2, Brc3, Brc4, Brc5, Brc6, Brc7, Brl⟩ := cb8 Br
  go_wp2_with fail
  clear Brc0 Brc1 Brc2 Brc3 Brc4 Brc5 Brc6 Brc7 Brl
  have w1 : wrap64 (r.lo - 2) = r.lo - 2 := by unfold wrap64; omega
  have w2 : wrap64 (r.hi + 3) = r.hi + 3 := by unfold wrap64; omega
  rw [w1, w2]
  clear w1 w2
  refine (impl_WithRange_eq (by exact Xr.below (by repeat (first | exact bR | refine bO ?_ | refine bA ?_ | refine bS ?_ | refine bD ?_ | refine bN ?_))) hsr HWR).mono ?_
  rintro e W3 ⟨Ax1, dx1, Ax2, dx2, Ax3, dx3, rfl, Xx, hb⟩
  have K : Below W2.heap.size W2 W3 := Below.trans (by repeat (first | exact bR | refine bO ?_ | refine bA ?_ | refine bS ?_ | refine bD ?_ | refine bN ?_)) (hb.mono (by first | exact Nat.le_refl _ | simp [ov_size]))
  clear hb
  replace T := T.trans (K.mono T.size)
  replace Br := box_below Br K
  replace Xr := Xr.below K
  clear K Scode
  have Scode := Rcode.below (TV.trans (T.mono s0))
  replace Xx := Xx.rm
  obtain ⟨Brc0, Brc1, Brc2, Brc3, Brc4, Brc5, Brc6, Brc7, Brl⟩ := cb8 Br
  go_wp2_with fail
  clear Brc0 Brc1 Brc2 Brc3 Brc4 Brc5 Brc6 Brc7 Brl
  obtain ⟨bx, hbx⟩ : ∃ b, b = W3.heap.size := ⟨_, rfl⟩
  rw [← hbx]
  obtain ⟨W4, hW⟩ : ∃ W, W = W3.alloc (.cells #[.slice Ax1 x.m.length dx1, .int .i64 x.q, .int .i64 x.bx, .int .i64 x.by_, .int .i64 x.lo, .int .i64 x.hi, .slice Ax2 x.ns.length dx2, .slice Ax3 x.ls.length dx3] 28) := ⟨_, rfl⟩
  rw [← hW]
  have K : Below W3.heap.size W3 W4 := by rw [hW]; exact (by repeat (first | exact bR | refine bO ?_ | refine bA ?_ | refine bS ?_ | refine bD ?_ | refine bN ?_))
  have Bx := Lib.hid (show W4.heap[bx]? = some (.cells #[.slice Ax1 x.m.length dx1, .int .i64 x.q, .int .i64 x.bx, .int .i64 x.by_, .int .i64 x.lo, .int .i64 x.hi, .slice Ax2 x.ns.length dx2, .slice Ax3 x.ls.length dx3] 28 (0, 0)) by rw [hW, hbx]; exact heap_alloc_new _ _)
  clear hW hbx
  replace T := T.trans (K.mono T.size)
  replace Br := box_below Br K
  replace Xr := Xr.below K
  replace Xx := Xx.below K
  clear K Scode
  have Scode := Rcode.below (TV.trans (T.mono s0))
  refine (impl_KeptRegion_eq (by exact Xr.below (by repeat (first | exact bR | refine bO ?_ | refine bA ?_ | refine bS ?_ | refine bD ?_ | refine bN ?_))) hsr HP).mono ?_
  rintro e W5 ⟨Ap, cp, rfl, Xp, hb⟩
  have K : Below W4.heap.size W4 W5 := Below.trans (by repeat (first | exact bR | refine bO ?_ | refine bA ?_ | refine bS ?_ | refine bD ?_ | refine bN ?_)) (hb.mono (by first | exact Nat.le_refl _ | simp [ov_size]))
  clear hb
  replace T := T.trans (K.mono T.size)
  replace Br := box_below Br K
  replace Bx := box_below Bx K
  replace Xr := Xr.below K
  replace Xx := Xx.below K
  clear K Scode
  have Scode := Rcode.below (TV.trans (T.mono s0))
  replace Xp := Xp.r3
  obtain ⟨Brc0, Brc1, Brc2, Brc3, Brc4, Brc5, Brc6, Brc7, Brl⟩ := cb8 Br
  obtain ⟨Bxc0, Bxc1, Bxc2, Bxc3, Bxc4, Bxc5, Bxc6, Bxc7, Bxl⟩ := cb8 Bx
  go_wp2_with fail
  clear Brc0 Brc1 Brc2 Brc3 Brc4 Brc5 Brc6 Brc7 Bxc0 Bxc1 Bxc2 Bxc3 Bxc4 Bxc5 Bxc6 Bxc7 Brl Bxl
  obtain ⟨bp, hbx⟩ : ∃ b, b = W5.heap.size := ⟨_, rfl⟩
  rw [← hbx]
  obtain ⟨W6, hW⟩ : ∃ W, W = W5.alloc (.cells #[.slice Ap p.length cp] 26) := ⟨_, rfl⟩
  rw [← hW]
  have K : Below W5.heap.size W5 W6 := by rw [hW]; exact (by repeat (first | exact bR | refine bO ?_ | refine bA ?_ | refine bS ?_ | refine bD ?_ | refine bN ?_))
  have Bp := Lib.hid (show W6.heap[bp]? = some (.cells #[.slice Ap p.length cp] 26 (0, 0)) by rw [hW, hbx]; exact heap_alloc_new _ _)
  clear hW hbx
  replace T := T.trans (K.mono T.size)
  replace Br := box_below Br K
  replace Bx := box_below Bx K
  replace Xr := Xr.below K
  replace Xx := Xx.below K
  replace Xp := Xp.below K
  clear K Scode
  have Scode := Rcode.below (TV.trans (T.mono s0))
  refine (impl_KeptRegion_eq (by exact Xx.below (by repeat (first | exact bR | refine bO ?_ | refine bA ?_ | refine bS ?_ | refine bD ?_ | refine bN ?_))) hsx HQ).mono ?_
  rintro e W7 ⟨Aq, cq, rfl, Xq, hb⟩
  have K : Below W6.heap.size W6 W7 := Below.trans (by repeat (first | exact bR | refine bO ?_ | refine bA ?_ | refine bS ?_ | refine bD ?_ | refine bN ?_)) (hb.mono (by first | exact Nat.le_refl _ | simp [ov_size]))
  clear hb
  replace T := T.trans (K.mono T.size)
  replace Br := box_below Br K
  replace Bx := box_below Bx K
  replace Bp := box_below Bp K
  replace Xr := Xr.below K
  replace Xx := Xx.below K
  replace Xp := Xp.below K
  clear K Scode
  have Scode := Rcode.below (TV.trans (T.mono s0))
  replace Xq := Xq.r3
  obtain ⟨Brc0, Brc1, Brc2, Brc3, Brc4, Brc5, Brc6, Brc7, Brl⟩ := cb8 Br
  obtain ⟨Bxc0, Bxc1, Bxc2, Bxc3, Bxc4, Bxc5, Bxc6, Bxc7, Bxl⟩ := cb8 Bx
  obtain ⟨Bpc0, Bpl⟩ := cb1 Bp
  go_wp2_with fail
  clear Brc0 Brc1 Brc2 Brc3 Brc4 Brc5 Brc6 Brc7 Bxc0 Bxc1 Bxc2 Bxc3 Bxc4 Bxc5 Bxc6 Bxc7 Bpc0 Brl Bxl Bpl
  obtain ⟨bq, hbx⟩ : ∃ b, b = W7.heap.size := ⟨_, rfl⟩
  rw [← hbx]
  obtain ⟨W8, hW⟩ : ∃ W, W = W7.alloc (.cells #[.slice Aq q.length cq] 26) := ⟨_, rfl⟩
  rw [← hW]
  have K : Below W7.heap.size W7 W8 := by rw [hW]; exact (by repeat (first | exact bR | refine bO ?_ | refine bA ?_ | refine bS ?_ | refine bD ?_ | refine bN ?_))
  have Bq := Lib.hid (show W8.heap[bq]? = some (.cells #[.slice Aq q.length cq] 26 (0, 0)) by rw [hW, hbx]; exact heap_alloc_new _ _)
  clear hW hbx
  replace T := T.trans (K.mono T.size)
  replace Br := box_below Br K
  replace Bx := box_below Bx K
  replace Bp := box_below Bp K
  replace Xr := Xr.below K
  replace Xx := Xx.below K
  replace Xp := Xp.below K
  replace Xq := Xq.below K
  clear K Scode
  have Scode := Rcode.below (TV.trans (T.mono s0))
  refine (impl_WithNoise_eq (by exact Xr.below (by repeat (first | exact bR | refine bO ?_ | refine bA ?_ | refine bS ?_ | refine bD ?_ | refine bN ?_))) hsr (by exact Xr.nr.below (by repeat (first | exact bR | refine bO ?_ | refine bA ?_ | refine bS ?_ | refine bD ?_ | refine bN ?_))) (by omega) HWN).mono ?_
  rintro e W9 ⟨An1, dn1, An2, dn2, An3, dn3, rfl, Xn, hb⟩
  have K : Below W8.heap.size W8 W9 := Below.trans (by repeat (first | exact bR | refine bO ?_ | refine bA ?_ | refine bS ?_ | refine bD ?_ | refine bN ?_)) (hb.mono (by first | exact Nat.le_refl _ | simp [ov_size]))
  clear hb
  replace T := T.trans (K.mono T.size)
  replace Br := box_below Br K
  replace Bx := box_below Bx K
  replace Bp := box_below Bp K
  replace Bq := box_below Bq K
  replace Xr := Xr.below K
  replace Xx := Xx.below K
  replace Xp := Xp.below K
  replace Xq := Xq.below K
  clear K Scode
  have Scode := Rcode.below (TV.trans (T.mono s0))
  replace Xn := Xn.rm
  obtain ⟨Brc0, Brc1, Brc2, Brc3, Brc4, Brc5, Brc6, Brc7, Brl⟩ := cb8 Br
  obtain ⟨Bxc0, Bxc1, Bxc2, Bxc3, Bxc4, Bxc5, Bxc6, Bxc7, Bxl⟩ := cb8 Bx
  obtain ⟨Bpc0, Bpl⟩ := cb1 Bp
  obtain ⟨Bqc0, Bql⟩ := cb1 Bq
  go_wp2_with fail
  clear Brc0 Brc1 Brc2 Brc3 Brc4 Brc5 Brc6 Brc7 Bxc0 Bxc1 Bxc2 Bxc3 Bxc4 Bxc5 Bxc6 Bxc7 Bpc0 Bqc0 Brl Bxl Bpl Bql
  obtain ⟨bn, hbx⟩ : ∃ b, b = W9.heap.size := ⟨_, rfl⟩
  rw [← hbx]
  obtain ⟨W10, hW⟩ : ∃ W, W = W9.alloc (.cells #[.slice An1 n.m.length dn1, .int .i64 n.q, .int .i64 n.bx, .int .i64 n.by_, .int .i64 n.lo, .int .i64 n.hi, .slice An2 n.ns.length dn2, .slice An3 n.ls.length dn3] 28) := ⟨_, rfl⟩
  rw [← hW]
  have K : Below W9.heap.size W9 W10 := by rw [hW]; exact (by repeat (first | exact bR | refine bO ?_ | refine bA ?_ | refine bS ?_ | refine bD ?_ | refine bN ?_))
  have Bn := Lib.hid (show W10.heap[bn]? = some (.cells #[.slice An1 n.m.length dn1, .int .i64 n.q, .int .i64 n.bx, .int .i64 n.by_, .int .i64 n.lo, .int .i64 n.hi, .slice An2 n.ns.length dn2, .slice An3 n.ls.length dn3] 28 (0, 0)) by rw [hW, hbx]; exact heap_alloc_new _ _)
  clear hW hbx
  replace T := T.trans (K.mono T.size)
  replace Br := box_below Br K
  replace Bx := box_below Bx K
  replace Bp := box_below Bp K
  replace Bq := box_below Bq K
  replace Xr := Xr.below K
  replace Xx := Xx.below K
  replace Xp := Xp.below K
  replace Xq := Xq.below K
  replace Xn := Xn.below K
  clear K Scode
  have Scode := Rcode.below (TV.trans (T.mono s0))
  refine (calls_ov (impl_RoomOk_eq (by exact Xr.below (by repeat (first | exact bR | refine bO ?_ | refine bA ?_ | refine bS ?_ | refine bD ?_ | refine bN ?_))) hsr HRO)).mono ?_
  rintro e w' ⟨rfl, x9, rfl⟩
  obtain ⟨W11, hW⟩ : ∃ Z, Z = ov W10 x9 := ⟨_, rfl⟩
  rw [← hW]
  have K : Below W10.heap.size W10 W11 := by rw [hW]; exact (by repeat (first | exact bR | refine bO ?_ | refine bA ?_ | refine bS ?_ | refine bD ?_ | refine bN ?_))
  clear hW
  replace T := T.trans (K.mono T.size)
  replace Br := box_below Br K
  replace Bx := box_below Bx K
  replace Bp := box_below Bp K
  replace Bq := box_below Bq K
  replace Bn := box_below Bn K
  replace Xr := Xr.below K
  replace Xx := Xx.below K
  replace Xp := Xp.below K
  replace Xq := Xq.below K
  replace Xn := Xn.below K
  clear K Scode
  have Scode := Rcode.below (TV.trans (T.mono s0))
  obtain ⟨Brc0, Brc1, Brc2, Brc3, Brc4, Brc5, Brc6, Brc7, Brl⟩ := cb8 Br
  obtain ⟨Bxc0, Bxc1, Bxc2, Bxc3, Bxc4, Bxc5, Bxc6, Bxc7, Bxl⟩ := cb8 Bx
  obtain ⟨Bpc0, Bpl⟩ := cb1 Bp
  obtain ⟨Bqc0, Bql⟩ := cb1 Bq
  obtain ⟨Bnc0, Bnc1, Bnc2, Bnc3, Bnc4, Bnc5, Bnc6, Bnc7, Bnl⟩ := cb8 Bn
  go_wp2_with fail
  clear Brc0 Brc1 Brc2 Brc3 Brc4 Brc5 Brc6 Brc7 Bxc0 Bxc1 Bxc2 Bxc3 Bxc4 Bxc5 Bxc6 Bxc7 Bpc0 Bqc0 Bnc0 Bnc1 Bnc2 Bnc3 Bnc4 Bnc5 Bnc6 Bnc7 Brl Bxl Bpl Bql Bnl
  refine (calls_ov (impl_SameRooms_eq (by exact Xn.below (by repeat (first | exact bR | refine bO ?_ | refine bA ?_ | refine bS ?_ | refine bD ?_ | refine bN ?_))) (by exact Xr.below (by repeat (first | exact bR | refine bO ?_ | refine bA ?_ | refine bS ?_ | refine bD ?_ | refine bN ?_))) hnn hsr HSN)).mono ?_
  rintro e w' ⟨rfl, x9, rfl⟩
  obtain ⟨W12, hW⟩ : ∃ Z, Z = ov W11 x9 := ⟨_, rfl⟩
  rw [← hW]
  have K : Below W11.heap.size W11 W12 := by rw [hW]; exact (by repeat (first | exact bR | refine bO ?_ | refine bA ?_ | refine bS ?_ | refine bD ?_ | refine bN ?_))
  clear hW
  replace T := T.trans (K.mono T.size)
  replace Br := box_below Br K
  replace Bx := box_below Bx K
  replace Bp := box_below Bp K
  replace Bq := box_below Bq K
  replace Bn := box_below Bn K
  replace Xr := Xr.below K
  replace Xx := Xx.below K
  replace Xp := Xp.below K
  replace Xq := Xq.below K
  replace Xn := Xn.below K
  clear K Scode
  have Scode := Rcode.below (TV.trans (T.mono s0))
  cases one with
  | false =>
    obtain ⟨Brc0, Brc1, Brc2, Brc3, Brc4, Brc5, Brc6, Brc7, Brl⟩ := cb8 Br
    obtain ⟨Bxc0, Bxc1, Bxc2, Bxc3, Bxc4, Bxc5, Bxc6, Bxc7, Bxl⟩ := cb8 Bx
    obtain ⟨Bpc0, Bpl⟩ := cb1 Bp
    obtain ⟨Bqc0, Bql⟩ := cb1 Bq
    obtain ⟨Bnc0, Bnc1, Bnc2, Bnc3, Bnc4, Bnc5, Bnc6, Bnc7, Bnl⟩ := cb8 Bn
    go_wp2
    go_ret
    exact ⟨rfl, (by repeat (first | exact TV.trans (T.mono s0) | refine bO ?_ | refine bA ?_ | refine bS ?_ | refine bD ?_ | refine bN ?_))⟩
  | true =>
    cases two with
    | false =>
      obtain ⟨Brc0, Brc1, Brc2, Brc3, Brc4, Brc5, Brc6, Brc7, Brl⟩ := cb8 Br
      obtain ⟨Bxc0, Bxc1, Bxc2, Bxc3, Bxc4, Bxc5, Bxc6, Bxc7, Bxl⟩ := cb8 Bx
      obtain ⟨Bpc0, Bpl⟩ := cb1 Bp
      obtain ⟨Bqc0, Bql⟩ := cb1 Bq
      obtain ⟨Bnc0, Bnc1, Bnc2, Bnc3, Bnc4, Bnc5, Bnc6, Bnc7, Bnl⟩ := cb8 Bn
      go_wp2
      go_ret
      exact ⟨rfl, (by repeat (first | exact TV.trans (T.mono s0) | refine bO ?_ | refine bA ?_ | refine bS ?_ | refine bD ?_ | refine bN ?_))⟩
    | true =>
      have HW := Lib.hid (HL.out (by trivial) (by trivial))
      obtain ⟨Brc0, Brc1, Brc2, Brc3, Brc4, Brc5, Brc6, Brc7, Brl⟩ := cb8 Br
      obtain ⟨Bxc0, Bxc1, Bxc2, Bxc3, Bxc4, Bxc5, Bxc6, Bxc7, Bxl⟩ := cb8 Bx
      obtain ⟨Bpc0, Bpl⟩ := cb1 Bp
      obtain ⟨Bqc0, Bql⟩ := cb1 Bq
      obtain ⟨Bnc0, Bnc1, Bnc2, Bnc3, Bnc4, Bnc5, Bnc6, Bnc7, Bnl⟩ := cb8 Bn
      go_wp2_with fail
      clear Brc0 Brc1 Brc2 Brc3 Brc4 Brc5 Brc6 Brc7 Bxc0 Bxc1 Bxc2 Bxc3 Bxc4 Bxc5 Bxc6 Bxc7 Bpc0 Bqc0 Bnc0 Bnc1 Bnc2 Bnc3 Bnc4 Bnc5 Bnc6 Bnc7 Brl Bxl Bpl Bql Bnl
      refine (calls_ov (impl_IsWithin_eq (by exact Xp.below (by repeat (first | exact bR | refine bO ?_ | refine bA ?_ | refine bS ?_ | refine bD ?_ | refine bN ?_))) (by omega) (by exact Xq.below (by repeat (first | exact bR | refine bO ?_ | refine bA ?_ | refine bS ?_ | refine bD ?_ | refine bN ?_))) (by omega) HW)).mono ?_
      rintro e w' ⟨rfl, x9, rfl⟩
      obtain ⟨W13, hW⟩ : ∃ Z, Z = ov W12 x9 := ⟨_, rfl⟩
      rw [← hW]
      have K : Below W12.heap.size W12 W13 := by rw [hW]; exact (by repeat (first | exact bR | refine bO ?_ | refine bA ?_ | refine bS ?_ | refine bD ?_ | refine bN ?_))
      clear hW
      replace T := T.trans (K.mono T.size)
      replace Br := box_below Br K
      replace Bx := box_below Bx K
      replace Bp := box_below Bp K
      replace Bq := box_below Bq K
      replace Bn := box_below Bn K
      replace Xr := Xr.below K
      replace Xx := Xx.below K
      replace Xp := Xp.below K
      replace Xq := Xq.below K
      replace Xn := Xn.below K
      clear K Scode
      have Scode := Rcode.below (TV.trans (T.mono s0))
      obtain ⟨Brc0, Brc1, Brc2, Brc3, Brc4, Brc5, Brc6, Brc7, Brl⟩ := cb8 Br
      obtain ⟨Bxc0, Bxc1, Bxc2, Bxc3, Bxc4, Bxc5, Bxc6, Bxc7, Bxl⟩ := cb8 Bx
      obtain ⟨Bpc0, Bpl⟩ := cb1 Bp
      obtain ⟨Bqc0, Bql⟩ := cb1 Bq
      obtain ⟨Bnc0, Bnc1, Bnc2, Bnc3, Bnc4, Bnc5, Bnc6, Bnc7, Bnl⟩ := cb8 Bn
      go_wp2
      go_ret
      exact ⟨rfl, (by repeat (first | exact TV.trans (T.mono s0) | refine bO ?_ | refine bA ?_ | refine bS ?_ | refine bD ?_ | refine bN ?_))⟩
set_option maxRecDepth 100000 in
theorem FnRanges_lifted (os : Os) (started : os.Started) (H : Type) (enc : TypeId × Value → H) :
    ReturnsInHanded {} Tryz.checked os 3 .any (Rows.fnRangesSpec.pre6 enc Tryz.prog Tryz.f3 Rows.fnRangesRow.domain false) (Rows.fnRangesSpec.post enc Tryz.prog Tryz.f3 false true false false) := by
  refine returnsInHanded_of_change (C := Tryz.checked) own started (by kernel_rfl) Tryz.func3
    (ChangeSpec.witness6 (enc := enc) (C := Tryz.checked) false ⟨#[], #[.slice none 0 0], []⟩ 8 (by kernel_rfl) (by kernel_rfl) (by kernel_rfl) (by kernel_rfl)) ?_
  intro W base args ds gs before hval0 hW hcnd _
  have hval : ∀ (j : Nat) t v, Tryz.f3.params[j]? = some t → args[j]? = some v → Value.okWide Tryz.prog W .any base t v := hval0
  have hW' := hW
  obtain ⟨p, q, hA0, hV, rfl, hfz, hnd⟩ := hW
  have hA : DataW.TrodAll enc Tryz.prog W 0 (fun _ => true) true Tryz.f3.params.toList args.toList ds p := hA0
  rw [Tryz.params3] at hA hval
  obtain ⟨v0, vs0, d0, ds0, p0, q0, hargs0, rfl, rfl, h0, r0⟩ := trodAll_cons hA
  obtain ⟨rfl, rfl, rfl⟩ := trodAll_nil r0
  obtain rfl : args = #[v0] := by cases args; simp_all
  obtain ⟨rfl, rfl⟩ := trodVars_none hV
  have k0 := h0
  have lt0 : ∀ x ∈ p0, x.block < W.heap.size := by obtain ⟨m, hm⟩ := k0; exact DataW.trod_lt m _ _ _ hm
  have hv0 := hval 0 22 v0 rfl rfl
  obtain ⟨A0, c0, xs0, rfl, RR0, hlen0⟩ := open_bytes hv0 h0
  clear hA0 hval0
  refine (lawR_any W RR0 hlen0).mono fun e W' ⟨he, bel⟩ => ?_
  subst he
  exact ⟨_, rfl, _, _, _, [], _, [], hW', trodAll_mk1 (shut_bool Tryz.underlying4 _), (trodAll_cons_mk (Below.trod laidOut (by kernel_rfl) (of_decide_eq_true (by kernel_rfl)) k0 bel lt0) trodAll_mk0), rfl, bel.frame _, fun h => by cases h⟩

theorem FnRanges_holds : Rows.FnRangesSaid :=
  OpenClaim.holds_of_wide 3 Tryz.f3 rfl rfl rfl rfl rfl rfl rfl ⟨rfl, rfl, rfl, rfl, rfl⟩ rfl rfl rfl rfl rfl (by kernel_rfl) Tryz.func3 (by kernel_rfl)
    (of_decide_eq_true (by kernel_rfl)) (by unfold Func.isWrapper; first | (rw [if_pos (by decide +kernel)]; kernel_rfl) | (rw [if_neg (by decide +kernel)]; exact ⟨rfl, rfl⟩))
    (fun os started H enc _ => FnRanges_lifted os started H enc)
#print axioms FnRanges_holds
end Go.Proofs.YtabmfaamadbefaaGreat