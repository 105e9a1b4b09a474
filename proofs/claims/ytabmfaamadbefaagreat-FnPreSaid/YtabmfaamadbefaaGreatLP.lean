/- FnPre returns true for every argument, and leaves it as it was. No condition. -/
import Derived.Test.YtabmfaamadbefaaGreatQz
import Derived.Test.YtabmfaamadbefaaGreatCst
import Derived.Test.YtabmfaamadbefaaGreatZp
import Derived.Test.YtabmfaamadbefaaGreatQb
import Derived.Test.YtabmfaamadbefaaGreatQo
import Derived.Test.YtabmfaamadbefaaGreatHsp
import Derived.Test.YtabmfaamadbefaaGreatWn
set_option linter.unusedVariables false
set_option linter.unusedSimpArgs false
set_option linter.unusedSectionVars false
namespace Go.Proofs.YtabmfaamadbefaaGreat
open Go.ChangeShapes Go.WideShapes Go.ChangeAt Go.RowKit Go.Joins
set_option maxRecDepth 100000 in
set_option maxHeartbeats 8000000 in
theorem lawP_any {bs : List Int} {A : Option Addr} {c : Nat} (w : World) (Rcode : RY w A bs) (hlen : bs.length ≤ 9223372036854775807) :
    Calls Tryz.prog 6 #[.slice A bs.length c] w fun e w' => e = .returned (.bool true) ∧ Below w.heap.size w w' := by
  by_cases hm : 1048576 < bs.length
  · go_enter Tryz.func6, Tryz.ntmps6
    go_wp2
    go_ret
    exact ⟨rfl, (by repeat (first | exact bR | refine bO ?_ | refine bA ?_ | refine bS ?_ | refine bD ?_ | refine bN ?_))⟩
  replace hm : bs.length ≤ 1048576 := by omega
  go_enter Tryz.func6, Tryz.ntmps6
  go_wp2_with fail
  obtain ⟨V, hV⟩ : ∃ V, V = w := ⟨_, rfl⟩
  have TV : Below w.heap.size w V := by rw [hV]; exact Below.refl _ _
  have s0 : w.heap.size ≤ V.heap.size := TV.size
  obtain ⟨W0, hW⟩ : ∃ W0, W0 = w := ⟨_, rfl⟩
  rw [← hW]
  have T : Below V.heap.size V W0 := by rw [hW, hV]; exact Below.refl _ _
  clear hW hV
  have Scode := Rcode.below (TV.trans (T.mono s0))
  refine (MakeState_any (Scode.below (by repeat (first | exact bR | refine bO ?_ | refine bA ?_ | refine bS ?_ | refine bD ?_ | refine bN ?_))) hm).mono ?_
  rintro e W1 ⟨r, gr, cr1, Ar2, cr2, Ar3, cr3, sx, sy, rfl, Xr, D, hsx, hsy, hb⟩
  have K : Below W0.heap.size W0 W1 := Below.trans (by repeat (first | exact bR | refine bO ?_ | refine bA ?_ | refine bS ?_ | refine bD ?_ | refine bN ?_)) (hb.mono (by first | exact Nat.le_refl _ | simp [ov_size]))
  clear hb
  replace T := T.trans (K.mono T.size)
  clear K Scode
  have Scode := Rcode.below (TV.trans (T.mono s0))
  have hsr := short_room D
  go_wp2_with fail
  obtain ⟨W2, hW⟩ : ∃ W, (((W1.alloc (.cells #[.slice (some ⟨gr, 0, none⟩) r.m.length cr1, .int .i64 r.q, .int .i64 r.bx, .int .i64 r.by_, .int .i64 r.lo, .int .i64 r.hi, .slice Ar2 r.ns.length cr2, .slice Ar3 r.ls.length cr3] 28)).alloc (.cells #[.int .i64 sx, .int .i64 sy, .int .i64 1] 52)).alloc (.cells #[.slice Ar3 r.ls.length cr3] 26)) = W := ⟨_, rfl⟩
  rw [hW]
  have K : Below W1.heap.size W1 W2 := by rw [← hW]; exact (by repeat (first | exact bR | refine bO ?_ | refine bA ?_ | refine bS ?_ | refine bD ?_ | refine bN ?_))
  have Br := Lib.hid (show W2.heap[W1.heap.size]? = some (.cells #[.slice (some ⟨gr, 0, none⟩) r.m.length cr1, .int .i64 r.q, .int .i64 r.bx, .int .i64 r.by_, .int .i64 r.lo, .int .i64 r.hi, .slice Ar2 r.ns.length cr2, .slice Ar3 r.ls.length cr3] 28 (0, 0)) by rw [← hW]; exact ((heap_old_at (by first | (simp; done) | (simp <;> omega))).trans ((heap_old_at (by first | (simp; done) | (simp <;> omega))).trans (heap_new_at (by first | (simp; done) | (simp <;> omega)) rfl))))
  have Bs := Lib.hid (show W2.heap[W1.heap.size + 1]? = some (.cells #[.int .i64 sx, .int .i64 sy, .int .i64 1] 52 (0, 0)) by rw [← hW]; exact ((heap_old_at (by first | (simp; done) | (simp <;> omega))).trans (heap_new_at (by first | (simp; done) | (simp <;> omega)) rfl)))
  have Bp := Lib.hid (show W2.heap[W1.heap.size + 1 + 1]? = some (.cells #[.slice Ar3 r.ls.length cr3] 26 (0, 0)) by rw [← hW]; exact (heap_new_at (by first | (simp; done) | (simp <;> omega)) rfl))
  clear hW
  generalize W1.heap.size + 1 + 1 = bp at Bp ⊢
  generalize W1.heap.size + 1 = bs at Bs ⊢
  generalize W1.heap.size = br at Br ⊢
  replace T := T.trans (K.mono T.size)
  replace Xr := Xr.below K
  clear K Scode
  have Scode := Rcode.below (TV.trans (T.mono s0))
  obtain ⟨e, E⟩ := robust_room D
  obtain ⟨⟨q, ok⟩, hq⟩ : ∃ v, preR r r.ls = v := ⟨_, rfl⟩
  obtain ⟨⟨⟨⟨l1, l2⟩, m1, m2⟩, okA⟩, hA⟩ : ∃ v, admitR r r.ls sx sy 1 = v := ⟨_, rfl⟩
  have lr : r.ls.length ≤ 40 := by have := (limits D).len; omega
  have le := E.len
  have HE := Lib.hid E.rob
  have HW := Lib.hid E.wi
  have HV : Hid (decide (e.length = 0) = false) := Lib.hid (decide_eq_false (fun h => E.ne (List.length_eq_zero_iff.1 h)))
  have HRO := Lib.hid (room_ok D)
  have HQ := Lib.hid hq
  have HA := Lib.hid hA
  have SB : SpotB sx sy 1 := ⟨by omega, by omega, by omega⟩
  have SB2 : SpB sx sy 1 := ⟨by omega, by omega, by omega⟩
  clear hq hA
  refine (impl_PreRegion_eq (by exact Xr.below (by repeat (first | exact bR | refine bO ?_ | refine bA ?_ | refine bS ?_ | refine bD ?_ | refine bN ?_))) hsr (by exact Xr.lr.below (by repeat (first | exact bR | refine bO ?_ | refine bA ?_ | refine bS ?_ | refine bD ?_ | refine bN ?_))) (by omega) HQ).mono ?_
  rintro e W3 ⟨Aq, cq, rfl, Xq, hb⟩
  have K : Below W2.heap.size W2 W3 := Below.trans (by repeat (first | exact bR | refine bO ?_ | refine bA ?_ | refine bS ?_ | refine bD ?_ | refine bN ?_)) (hb.mono (by first | exact Nat.le_refl _ | simp [ov_size]))
  clear hb
  replace T := T.trans (K.mono T.size)
  replace Br := box_below Br K
  replace Bs := box_below Bs K
  replace Bp := box_below Bp K
  replace Xr := Xr.below K
  clear K Scode
  have Scode := Rcode.below (TV.trans (T.mono s0))
  replace Xq := Xq.r3
  obtain ⟨Brc0, Brc1, Brc2, Brc3, Brc4, Brc5, Brc6, Brc7, Brl⟩ := cb8 Br
  obtain ⟨Bsc0, Bsc1, Bsc2, Bsl⟩ := cb3 Bs
  obtain ⟨Bpc0, Bpl⟩ := cb1 Bp
  go_wp2_with fail
  clear Brc0 Brc1 Brc2 Brc3 Brc4 Brc5 Brc6 Brc7 Bsc0 Bsc1 Bsc2 Bpc0 Brl Bsl Bpl
  obtain ⟨bq, hbx⟩ : ∃ b, b = W3.heap.size := ⟨_, rfl⟩
  rw [← hbx]
  obtain ⟨W4, hW⟩ : ∃ W, W = W3.alloc (.cells #[.slice Aq q.length cq] 26) := ⟨_, rfl⟩
  rw [← hW]
  have K : Below W3.heap.size W3 W4 := by rw [hW]; exact (by repeat (first | exact bR | refine bO ?_ | refine bA ?_ | refine bS ?_ | refine bD ?_ | refine bN ?_))
  have Bq := Lib.hid (show W4.heap[bq]? = some (.cells #[.slice Aq q.length cq] 26 (0, 0)) by rw [hW, hbx]; exact heap_alloc_new _ _)
  clear hW hbx
  replace T := T.trans (K.mono T.size)
  replace Br := box_below Br K
  replace Bs := box_below Bs K
  replace Bp := box_below Bp K
  replace Xr := Xr.below K
  replace Xq := Xq.below K
  clear K Scode
  have Scode := Rcode.below (TV.trans (T.mono s0))
  refine (impl_RobustPart_eq (by exact Xr.below (by repeat (first | exact bR | refine bO ?_ | refine bA ?_ | refine bS ?_ | refine bD ?_ | refine bN ?_))) hsr (by exact Xr.lr.below (by repeat (first | exact bR | refine bO ?_ | refine bA ?_ | refine bS ?_ | refine bD ?_ | refine bN ?_))) (by omega) HE).mono ?_
  rintro e W5 ⟨Ae, ce, rfl, Xe, hb⟩
  have K : Below W4.heap.size W4 W5 := Below.trans (by repeat (first | exact bR | refine bO ?_ | refine bA ?_ | refine bS ?_ | refine bD ?_ | refine bN ?_)) (hb.mono (by first | exact Nat.le_refl _ | simp [ov_size]))
  clear hb
  replace T := T.trans (K.mono T.size)
  replace Br := box_below Br K
  replace Bs := box_below Bs K
  replace Bp := box_below Bp K
  replace Bq := box_below Bq K
  replace Xr := Xr.below K
  replace Xq := Xq.below K
  clear K Scode
  have Scode := Rcode.below (TV.trans (T.mono s0))
  replace Xe := Xe.r3
  obtain ⟨Brc0, Brc1, Brc2, Brc3, Brc4, Brc5, Brc6, Brc7, Brl⟩ := cb8 Br
  obtain ⟨Bsc0, Bsc1, Bsc2, Bsl⟩ := cb3 Bs
  obtain ⟨Bpc0, Bpl⟩ := cb1 Bp
  obtain ⟨Bqc0, Bql⟩ := cb1 Bq
  go_wp2_with fail
  clear Brc0 Brc1 Brc2 Brc3 Brc4 Brc5 Brc6 Brc7 Bsc0 Bsc1 Bsc2 Bpc0 Bqc0 Brl Bsl Bpl Bql
  obtain ⟨be, hbx⟩ : ∃ b, b = W5.heap.size := ⟨_, rfl⟩
  rw [← hbx]
  obtain ⟨W6, hW⟩ : ∃ W, W = W5.alloc (.cells #[.slice Ae e.length ce] 26) := ⟨_, rfl⟩
  rw [← hW]
  have K : Below W5.heap.size W5 W6 := by rw [hW]; exact (by repeat (first | exact bR | refine bO ?_ | refine bA ?_ | refine bS ?_ | refine bD ?_ | refine bN ?_))
  have Be := Lib.hid (show W6.heap[be]? = some (.cells #[.slice Ae e.length ce] 26 (0, 0)) by rw [hW, hbx]; exact heap_alloc_new _ _)
  clear hW hbx
  replace T := T.trans (K.mono T.size)
  replace Br := box_below Br K
  replace Bs := box_below Bs K
  replace Bp := box_below Bp K
  replace Bq := box_below Bq K
  replace Xr := Xr.below K
  replace Xq := Xq.below K
  replace Xe := Xe.below K
  clear K Scode
  have Scode := Rcode.below (TV.trans (T.mono s0))
  refine (calls_ov (impl_RoomOk_eq (by exact Xr.below (by repeat (first | exact bR | refine bO ?_ | refine bA ?_ | refine bS ?_ | refine bD ?_ | refine bN ?_))) hsr HRO)).mono ?_
  rintro e w' ⟨rfl, x9, rfl⟩
  obtain ⟨W7, hW⟩ : ∃ Z, Z = ov W6 x9 := ⟨_, rfl⟩
  rw [← hW]
  have K : Below W6.heap.size W6 W7 := by rw [hW]; exact (by repeat (first | exact bR | refine bO ?_ | refine bA ?_ | refine bS ?_ | refine bD ?_ | refine bN ?_))
  clear hW
  replace T := T.trans (K.mono T.size)
  replace Br := box_below Br K
  replace Bs := box_below Bs K
  replace Bp := box_below Bp K
  replace Bq := box_below Bq K
  replace Be := box_below Be K
  replace Xr := Xr.below K
  replace Xq := Xq.below K
  replace Xe := Xe.below K
  clear K Scode
  have Scode := Rcode.below (TV.trans (T.mono s0))
  obtain ⟨Brc0, Brc1, Brc2, Brc3, Brc4, Brc5, Brc6, Brc7, Brl⟩ := cb8 Br
  obtain ⟨Bsc0, Bsc1, Bsc2, Bsl⟩ := cb3 Bs
  obtain ⟨Bpc0, Bpl⟩ := cb1 Bp
  obtain ⟨Bqc0, Bql⟩ := cb1 Bq
  obtain ⟨Bec0, Bel⟩ := cb1 Be
  go_wp2_with fail
  clear Brc0 Brc1 Brc2 Brc3 Brc4 Brc5 Brc6 Brc7 Bsc0 Bsc1 Bsc2 Bpc0 Bqc0 Bec0 Brl Bsl Bpl Bql Bel
  refine (calls_ov (impl_IsWithin_eq (by exact Xe.below (by repeat (first | exact bR | refine bO ?_ | refine bA ?_ | refine bS ?_ | refine bD ?_ | refine bN ?_))) (by omega) (by exact Xr.lr.below (by repeat (first | exact bR | refine bO ?_ | refine bA ?_ | refine bS ?_ | refine bD ?_ | refine bN ?_))) (by omega) HW)).mono ?_
  rintro e w' ⟨rfl, x9, rfl⟩
  obtain ⟨W8, hW⟩ : ∃ Z, Z = ov W7 x9 := ⟨_, rfl⟩
  rw [← hW]
  have K : Below W7.heap.size W7 W8 := by rw [hW]; exact (by repeat (first | exact bR | refine bO ?_ | refine bA ?_ | refine bS ?_ | refine bD ?_ | refine bN ?_))
  clear hW
  replace T := T.trans (K.mono T.size)
  replace Br := box_below Br K
  replace Bs := box_below Bs K
  replace Bp := box_below Bp K
  replace Bq := box_below Bq K
  replace Be := box_below Be K
  replace Xr := Xr.below K
  replace Xq := Xq.below K
  replace Xe := Xe.below K
  clear K Scode
  have Scode := Rcode.below (TV.trans (T.mono s0))
  cases ok with
  | false =>
    obtain ⟨Brc0, Brc1, Brc2, Brc3, Brc4, Brc5, Brc6, Brc7, Brl⟩ := cb8 Br
    obtain ⟨Bsc0, Bsc1, Bsc2, Bsl⟩ := cb3 Bs
    obtain ⟨Bpc0, Bpl⟩ := cb1 Bp
    obtain ⟨Bqc0, Bql⟩ := cb1 Bq
    obtain ⟨Bec0, Bel⟩ := cb1 Be
    go_wp2
    go_ret
    exact ⟨rfl, (by repeat (first | exact TV.trans (T.mono s0) | refine bO ?_ | refine bA ?_ | refine bS ?_ | refine bD ?_ | refine bN ?_))⟩
  | true =>
    have lq := (region_good (preR_reg HQ.out)).2
    obtain ⟨vq, hvq⟩ : ∃ t, decide (q.length = 0) = t := ⟨_, rfl⟩
    have HVQ := Lib.hid hvq
    clear hvq
    obtain ⟨Brc0, Brc1, Brc2, Brc3, Brc4, Brc5, Brc6, Brc7, Brl⟩ := cb8 Br
    obtain ⟨Bsc0, Bsc1, Bsc2, Bsl⟩ := cb3 Bs
    obtain ⟨Bpc0, Bpl⟩ := cb1 Bp
    obtain ⟨Bqc0, Bql⟩ := cb1 Bq
    obtain ⟨Bec0, Bel⟩ := cb1 Be
    go_wp2_with fail
    clear Brc0 Brc1 Brc2 Brc3 Brc4 Brc5 Brc6 Brc7 Bsc0 Bsc1 Bsc2 Bpc0 Bqc0 Bec0 Brl Bsl Bpl Bql Bel
    refine (calls_ov (IsVoid_eq HVQ)).mono ?_
    rintro e w' ⟨rfl, x9, rfl⟩
    obtain ⟨W9, hW⟩ : ∃ Z, Z = ov W8 x9 := ⟨_, rfl⟩
    rw [← hW]
    have K : Below W8.heap.size W8 W9 := by rw [hW]; exact (by repeat (first | exact bR | refine bO ?_ | refine bA ?_ | refine bS ?_ | refine bD ?_ | refine bN ?_))
    clear hW
    replace T := T.trans (K.mono T.size)
    replace Br := box_below Br K
    replace Bs := box_below Bs K
    replace Bp := box_below Bp K
    replace Bq := box_below Bq K
    replace Be := box_below Be K
    replace Xr := Xr.below K
    replace Xq := Xq.below K
    replace Xe := Xe.below K
    clear K Scode
    have Scode := Rcode.below (TV.trans (T.mono s0))
    cases vq with
    | true =>
      obtain ⟨Brc0, Brc1, Brc2, Brc3, Brc4, Brc5, Brc6, Brc7, Brl⟩ := cb8 Br
      obtain ⟨Bsc0, Bsc1, Bsc2, Bsl⟩ := cb3 Bs
      obtain ⟨Bpc0, Bpl⟩ := cb1 Bp
      obtain ⟨Bqc0, Bql⟩ := cb1 Bq
      obtain ⟨Bec0, Bel⟩ := cb1 Be
      go_wp2
      go_ret
      exact ⟨rfl, (by repeat (first | exact TV.trans (T.mono s0) | refine bO ?_ | refine bA ?_ | refine bS ?_ | refine bD ?_ | refine bN ?_))⟩
    | false =>
      obtain ⟨k, hk, hk1, hk2⟩ := keep_fine D HQ.out
      have hlaw := pre_law D hsx hsy E HQ.out (fun h => by have := of_decide_eq_false HVQ.out; exact this (by rw [h]; rfl)) HA.out
      have lk := (region_good (keepR_reg hk)).2
      have HK := Lib.hid hk
      have HK1 := Lib.hid hk1
      have HK2 := Lib.hid hk2
      have HL := Lib.hid hlaw
      clear hk hk1 hk2 hlaw
      obtain ⟨Brc0, Brc1, Brc2, Brc3, Brc4, Brc5, Brc6, Brc7, Brl⟩ := cb8 Br
      obtain ⟨Bsc0, Bsc1, Bsc2, Bsl⟩ := cb3 Bs
      obtain ⟨Bpc0, Bpl⟩ := cb1 Bp
      obtain ⟨Bqc0, Bql⟩ := cb1 Bq
      obtain ⟨Bec0, Bel⟩ := cb1 Be
      go_wp2_with fail
      clear Brc0 Brc1 Brc2 Brc3 Brc4 Brc5 Brc6 Brc7 Bsc0 Bsc1 Bsc2 Bpc0 Bqc0 Bec0 Brl Bsl Bpl Bql Bel
      refine (calls_ov (IsVoid_eq HV)).mono ?_
      rintro e w' ⟨rfl, x9, rfl⟩
      obtain ⟨W10, hW⟩ : ∃ Z, Z = ov W9 x9 := ⟨_, rfl⟩
      rw [← hW]
      have K : Below W9.heap.size W9 W10 := by rw [hW]; exact (by repeat (first | exact bR | refine bO ?_ | refine bA ?_ | refine bS ?_ | refine bD ?_ | refine bN ?_))
      clear hW
      replace T := T.trans (K.mono T.size)
      replace Br := box_below Br K
      replace Bs := box_below Bs K
      replace Bp := box_below Bp K
      replace Bq := box_below Bq K
      replace Be := box_below Be K
      replace Xr := Xr.below K
      replace Xq := Xq.below K
      replace Xe := Xe.below K
      clear K Scode
      have Scode := Rcode.below (TV.trans (T.mono s0))
      obtain ⟨Brc0, Brc1, Brc2, Brc3, Brc4, Brc5, Brc6, Brc7, Brl⟩ := cb8 Br
      obtain ⟨Bsc0, Bsc1, Bsc2, Bsl⟩ := cb3 Bs
      obtain ⟨Bpc0, Bpl⟩ := cb1 Bp
      obtain ⟨Bqc0, Bql⟩ := cb1 Bq
      obtain ⟨Bec0, Bel⟩ := cb1 Be
      go_wp2_with fail
      clear Brc0 Brc1 Brc2 Brc3 Brc4 Brc5 Brc6 Brc7 Bsc0 Bsc1 Bsc2 Bpc0 Bqc0 Bec0 Brl Bsl Bpl Bql Bel
      refine (impl_KeepRegion_eq (by exact Xr.below (by repeat (first | exact bR | refine bO ?_ | refine bA ?_ | refine bS ?_ | refine bD ?_ | refine bN ?_))) hsr (by exact Xr.lr.below (by repeat (first | exact bR | refine bO ?_ | refine bA ?_ | refine bS ?_ | refine bD ?_ | refine bN ?_))) (by omega) HK).mono ?_
      rintro e W11 ⟨Ak, ck, rfl, Xk, hb⟩
      have K : Below W10.heap.size W10 W11 := Below.trans (by repeat (first | exact bR | refine bO ?_ | refine bA ?_ | refine bS ?_ | refine bD ?_ | refine bN ?_)) (hb.mono (by first | exact Nat.le_refl _ | simp [ov_size]))
      clear hb
      replace T := T.trans (K.mono T.size)
      replace Br := box_below Br K
      replace Bs := box_below Bs K
      replace Bp := box_below Bp K
      replace Bq := box_below Bq K
      replace Be := box_below Be K
      replace Xr := Xr.below K
      replace Xq := Xq.below K
      replace Xe := Xe.below K
      clear K Scode
      have Scode := Rcode.below (TV.trans (T.mono s0))
      replace Xk := Xk.r3
      obtain ⟨Brc0, Brc1, Brc2, Brc3, Brc4, Brc5, Brc6, Brc7, Brl⟩ := cb8 Br
      obtain ⟨Bsc0, Bsc1, Bsc2, Bsl⟩ := cb3 Bs
      obtain ⟨Bpc0, Bpl⟩ := cb1 Bp
      obtain ⟨Bqc0, Bql⟩ := cb1 Bq
      obtain ⟨Bec0, Bel⟩ := cb1 Be
      go_wp2_with fail
      clear Brc0 Brc1 Brc2 Brc3 Brc4 Brc5 Brc6 Brc7 Bsc0 Bsc1 Bsc2 Bpc0 Bqc0 Bec0 Brl Bsl Bpl Bql Bel
      obtain ⟨bk, hbx⟩ : ∃ b, b = W11.heap.size := ⟨_, rfl⟩
      rw [← hbx]
      obtain ⟨W12, hW⟩ : ∃ W, W = W11.alloc (.cells #[.slice Ak k.length ck] 26) := ⟨_, rfl⟩
      rw [← hW]
      have K : Below W11.heap.size W11 W12 := by rw [hW]; exact (by repeat (first | exact bR | refine bO ?_ | refine bA ?_ | refine bS ?_ | refine bD ?_ | refine bN ?_))
      have Bk := Lib.hid (show W12.heap[bk]? = some (.cells #[.slice Ak k.length ck] 26 (0, 0)) by rw [hW, hbx]; exact heap_alloc_new _ _)
      clear hW hbx
      replace T := T.trans (K.mono T.size)
      replace Br := box_below Br K
      replace Bs := box_below Bs K
      replace Bp := box_below Bp K
      replace Bq := box_below Bq K
      replace Be := box_below Be K
      replace Xr := Xr.below K
      replace Xq := Xq.below K
      replace Xe := Xe.below K
      replace Xk := Xk.below K
      clear K Scode
      have Scode := Rcode.below (TV.trans (T.mono s0))
      refine (impl_AdmitAt_eq (by exact Xr.below (by repeat (first | exact bR | refine bO ?_ | refine bA ?_ | refine bS ?_ | refine bD ?_ | refine bN ?_))) hsr (by exact Xr.lr.below (by repeat (first | exact bR | refine bO ?_ | refine bA ?_ | refine bS ?_ | refine bD ?_ | refine bN ?_))) (by omega) SB HA).mono ?_
      rintro e W13 ⟨rfl, hb⟩
      have K : Below W12.heap.size W12 W13 := Below.trans (by repeat (first | exact bR | refine bO ?_ | refine bA ?_ | refine bS ?_ | refine bD ?_ | refine bN ?_)) (hb.mono (by first | exact Nat.le_refl _ | simp [ov_size]))
      clear hb
      replace T := T.trans (K.mono T.size)
      replace Br := box_below Br K
      replace Bs := box_below Bs K
      replace Bp := box_below Bp K
      replace Bq := box_below Bq K
      replace Be := box_below Be K
      replace Bk := box_below Bk K
      replace Xr := Xr.below K
      replace Xq := Xq.below K
      replace Xe := Xe.below K
      replace Xk := Xk.below K
      clear K Scode
      have Scode := Rcode.below (TV.trans (T.mono s0))
      obtain ⟨Brc0, Brc1, Brc2, Brc3, Brc4, Brc5, Brc6, Brc7, Brl⟩ := cb8 Br
      obtain ⟨Bsc0, Bsc1, Bsc2, Bsl⟩ := cb3 Bs
      obtain ⟨Bpc0, Bpl⟩ := cb1 Bp
      obtain ⟨Bqc0, Bql⟩ := cb1 Bq
      obtain ⟨Bec0, Bel⟩ := cb1 Be
      obtain ⟨Bkc0, Bkl⟩ := cb1 Bk
      go_wp2_with fail
      clear Brc0 Brc1 Brc2 Brc3 Brc4 Brc5 Brc6 Brc7 Bsc0 Bsc1 Bsc2 Bpc0 Bqc0 Bec0 Bkc0 Brl Bsl Bpl Bql Bel Bkl
      obtain ⟨bm, hbx⟩ : ∃ b, b = W13.heap.size := ⟨_, rfl⟩
      rw [← hbx]
      obtain ⟨W14, hW⟩ : ∃ W, W = W13.alloc (.cells #[.int .i64 l1, .int .i64 l2, .int .i64 m1, .int .i64 m2] 61) := ⟨_, rfl⟩
      rw [← hW]
      have K : Below W13.heap.size W13 W14 := by rw [hW]; exact (by repeat (first | exact bR | refine bO ?_ | refine bA ?_ | refine bS ?_ | refine bD ?_ | refine bN ?_))
      have Bm := Lib.hid (show W14.heap[bm]? = some (.cells #[.int .i64 l1, .int .i64 l2, .int .i64 m1, .int .i64 m2] 61 (0, 0)) by rw [hW, hbx]; exact heap_alloc_new _ _)
      clear hW hbx
      replace T := T.trans (K.mono T.size)
      replace Br := box_below Br K
      replace Bs := box_below Bs K
      replace Bp := box_below Bp K
      replace Bq := box_below Bq K
      replace Be := box_below Be K
      replace Bk := box_below Bk K
      replace Xr := Xr.below K
      replace Xq := Xq.below K
      replace Xe := Xe.below K
      replace Xk := Xk.below K
      clear K Scode
      have Scode := Rcode.below (TV.trans (T.mono s0))
      refine (calls_ov (impl_IsWithin_eq (by exact Xk.below (by repeat (first | exact bR | refine bO ?_ | refine bA ?_ | refine bS ?_ | refine bD ?_ | refine bN ?_))) (by omega) (by exact Xr.lr.below (by repeat (first | exact bR | refine bO ?_ | refine bA ?_ | refine bS ?_ | refine bD ?_ | refine bN ?_))) (by omega) HK1)).mono ?_
      rintro e w' ⟨rfl, x9, rfl⟩
      obtain ⟨W15, hW⟩ : ∃ Z, Z = ov W14 x9 := ⟨_, rfl⟩
      rw [← hW]
      have K : Below W14.heap.size W14 W15 := by rw [hW]; exact (by repeat (first | exact bR | refine bO ?_ | refine bA ?_ | refine bS ?_ | refine bD ?_ | refine bN ?_))
      clear hW
      replace T := T.trans (K.mono T.size)
      replace Br := box_below Br K
      replace Bs := box_below Bs K
      replace Bp := box_below Bp K
      replace Bq := box_below Bq K
      replace Be := box_below Be K
      replace Bk := box_below Bk K
      replace Bm := box_below Bm K
      replace Xr := Xr.below K
      replace Xq := Xq.below K
      replace Xe := Xe.below K
      replace Xk := Xk.below K
      clear K Scode
      have Scode := Rcode.below (TV.trans (T.mono s0))
      obtain ⟨Brc0, Brc1, Brc2, Brc3, Brc4, Brc5, Brc6, Brc7, Brl⟩ := cb8 Br
      obtain ⟨Bsc0, Bsc1, Bsc2, Bsl⟩ := cb3 Bs
      obtain ⟨Bpc0, Bpl⟩ := cb1 Bp
      obtain ⟨Bqc0, Bql⟩ := cb1 Bq
      obtain ⟨Bec0, Bel⟩ := cb1 Be
      obtain ⟨Bkc0, Bkl⟩ := cb1 Bk
      obtain ⟨Bmc0, Bmc1, Bmc2, Bmc3, Bml⟩ := cb4 Bm
      go_wp2_with fail
      clear Brc0 Brc1 Brc2 Brc3 Brc4 Brc5 Brc6 Brc7 Bsc0 Bsc1 Bsc2 Bpc0 Bqc0 Bec0 Bkc0 Bmc0 Bmc1 Bmc2 Bmc3 Brl Bsl Bpl Bql Bel Bkl Bml
      refine (calls_ov (impl_IsWithin_eq (by exact Xk.below (by repeat (first | exact bR | refine bO ?_ | refine bA ?_ | refine bS ?_ | refine bD ?_ | refine bN ?_))) (by omega) (by exact Xq.below (by repeat (first | exact bR | refine bO ?_ | refine bA ?_ | refine bS ?_ | refine bD ?_ | refine bN ?_))) (by omega) HK2)).mono ?_
      rintro e w' ⟨rfl, x9, rfl⟩
      obtain ⟨W16, hW⟩ : ∃ Z, Z = ov W15 x9 := ⟨_, rfl⟩
      rw [← hW]
      have K : Below W15.heap.size W15 W16 := by rw [hW]; exact (by repeat (first | exact bR | refine bO ?_ | refine bA ?_ | refine bS ?_ | refine bD ?_ | refine bN ?_))
      clear hW
      replace T := T.trans (K.mono T.size)
      replace Br := box_below Br K
      replace Bs := box_below Bs K
      replace Bp := box_below Bp K
      replace Bq := box_below Bq K
      replace Be := box_below Be K
      replace Bk := box_below Bk K
      replace Bm := box_below Bm K
      replace Xr := Xr.below K
      replace Xq := Xq.below K
      replace Xe := Xe.below K
      replace Xk := Xk.below K
      clear K Scode
      have Scode := Rcode.below (TV.trans (T.mono s0))
      obtain ⟨Brc0, Brc1, Brc2, Brc3, Brc4, Brc5, Brc6, Brc7, Brl⟩ := cb8 Br
      obtain ⟨Bsc0, Bsc1, Bsc2, Bsl⟩ := cb3 Bs
      obtain ⟨Bpc0, Bpl⟩ := cb1 Bp
      obtain ⟨Bqc0, Bql⟩ := cb1 Bq
      obtain ⟨Bec0, Bel⟩ := cb1 Be
      obtain ⟨Bkc0, Bkl⟩ := cb1 Bk
      obtain ⟨Bmc0, Bmc1, Bmc2, Bmc3, Bml⟩ := cb4 Bm
      go_wp2_with fail
      clear Brc0 Brc1 Brc2 Brc3 Brc4 Brc5 Brc6 Brc7 Bsc0 Bsc1 Bsc2 Bpc0 Bqc0 Bec0 Bkc0 Bmc0 Bmc1 Bmc2 Bmc3 Brl Bsl Bpl Bql Bel Bkl Bml
      refine (calls_ov (impl_HasSpot_eq (by exact Xq.below (by repeat (first | exact bR | refine bO ?_ | refine bA ?_ | refine bS ?_ | refine bD ?_ | refine bN ?_))) (by omega) SB2 HL)).mono ?_
      rintro e w' ⟨rfl, x9, rfl⟩
      obtain ⟨W17, hW⟩ : ∃ Z, Z = ov W16 x9 := ⟨_, rfl⟩
      rw [← hW]
      have K : Below W16.heap.size W16 W17 := by rw [hW]; exact (by repeat (first | exact bR | refine bO ?_ | refine bA ?_ | refine bS ?_ | refine bD ?_ | refine bN ?_))
      clear hW
      replace T := T.trans (K.mono T.size)
      replace Br := box_below Br K
      replace Bs := box_below Bs K
      replace Bp := box_below Bp K
      replace Bq := box_below Bq K
      replace Be := box_below Be K
      replace Bk := box_below Bk K
      replace Bm := box_below Bm K
      replace Xr := Xr.below K
      replace Xq := Xq.below K
      replace Xe := Xe.below K
      replace Xk := Xk.below K
      clear K Scode
      have Scode := Rcode.below (TV.trans (T.mono s0))
      cases okA with
      | false =>
        obtain ⟨Brc0, Brc1, Brc2, Brc3, Brc4, Brc5, Brc6, Brc7, Brl⟩ := cb8 Br
        obtain ⟨Bsc0, Bsc1, Bsc2, Bsl⟩ := cb3 Bs
        obtain ⟨Bpc0, Bpl⟩ := cb1 Bp
        obtain ⟨Bqc0, Bql⟩ := cb1 Bq
        obtain ⟨Bec0, Bel⟩ := cb1 Be
        obtain ⟨Bkc0, Bkl⟩ := cb1 Bk
        obtain ⟨Bmc0, Bmc1, Bmc2, Bmc3, Bml⟩ := cb4 Bm
        go_wp2
        go_ret
        exact ⟨rfl, (by repeat (first | exact TV.trans (T.mono s0) | refine bO ?_ | refine bA ?_ | refine bS ?_ | refine bD ?_ | refine bN ?_))⟩
      | true =>
        obtain ⟨Brc0, Brc1, Brc2, Brc3, Brc4, Brc5, Brc6, Brc7, Brl⟩ := cb8 Br
        obtain ⟨Bsc0, Bsc1, Bsc2, Bsl⟩ := cb3 Bs
        obtain ⟨Bpc0, Bpl⟩ := cb1 Bp
        obtain ⟨Bqc0, Bql⟩ := cb1 Bq
        obtain ⟨Bec0, Bel⟩ := cb1 Be
        obtain ⟨Bkc0, Bkl⟩ := cb1 Bk
        obtain ⟨Bmc0, Bmc1, Bmc2, Bmc3, Bml⟩ := cb4 Bm
        go_wp2
        go_ret
        exact ⟨rfl, (by repeat (first | exact TV.trans (T.mono s0) | refine bO ?_ | refine bA ?_ | refine bS ?_ | refine bD ?_ | refine bN ?_))⟩
set_option maxRecDepth 100000 in
theorem FnPre_lifted (os : Os) (started : os.Started) (H : Type) (enc : TypeId × Value → H) :
    ReturnsInHanded {} Tryz.checked os 6 .any (Rows.fnPreSpec.pre6 enc Tryz.prog Tryz.f6 Rows.fnPreRow.domain false) (Rows.fnPreSpec.post enc Tryz.prog Tryz.f6 false true false false) := by
  refine returnsInHanded_of_change (C := Tryz.checked) own started (by kernel_rfl) Tryz.func6
    (ChangeSpec.witness6 (enc := enc) (C := Tryz.checked) false ⟨#[], #[.slice none 0 0], []⟩ 8 (by kernel_rfl) (by kernel_rfl) (by kernel_rfl) (by kernel_rfl)) ?_
  intro W base args ds gs before hval0 hW hcnd _
  have hval : ∀ (j : Nat) t v, Tryz.f6.params[j]? = some t → args[j]? = some v → Value.okWide Tryz.prog W .any base t v := hval0
  have hW' := hW
  obtain ⟨p, q, hA0, hV, rfl, hfz, hnd⟩ := hW
  have hA : DataW.TrodAll enc Tryz.prog W 0 (fun _ => true) true Tryz.f6.params.toList args.toList ds p := hA0
  rw [Tryz.params6] at hA hval
  obtain ⟨v0, vs0, d0, ds0, p0, q0, hargs0, rfl, rfl, h0, r0⟩ := trodAll_cons hA
  obtain ⟨rfl, rfl, rfl⟩ := trodAll_nil r0
  obtain rfl : args = #[v0] := by cases args; simp_all
  obtain ⟨rfl, rfl⟩ := trodVars_none hV
  have k0 := h0
  have lt0 : ∀ x ∈ p0, x.block < W.heap.size := by obtain ⟨m, hm⟩ := k0; exact DataW.trod_lt m _ _ _ hm
  have hv0 := hval 0 22 v0 rfl rfl
  obtain ⟨A0, c0, xs0, rfl, RR0, hlen0⟩ := open_bytes hv0 h0
  clear hA0 hval0
  refine (lawP_any W RR0 hlen0).mono fun e W' ⟨he, bel⟩ => ?_
  subst he
  exact ⟨_, rfl, _, _, _, [], _, [], hW', trodAll_mk1 (shut_bool Tryz.underlying4 _), (trodAll_cons_mk (Below.trod laidOut (by kernel_rfl) (of_decide_eq_true (by kernel_rfl)) k0 bel lt0) trodAll_mk0), rfl, bel.frame _, fun h => by cases h⟩

theorem FnPre_holds : Rows.FnPreSaid :=
  OpenClaim.holds_of_wide 6 Tryz.f6 rfl rfl rfl rfl rfl rfl rfl ⟨rfl, rfl, rfl, rfl, rfl⟩ rfl rfl rfl rfl rfl (by kernel_rfl) Tryz.func6 (by kernel_rfl)
    (of_decide_eq_true (by kernel_rfl)) (by unfold Func.isWrapper; first | (rw [if_pos (by decide +kernel)]; kernel_rfl) | (rw [if_neg (by decide +kernel)]; exact ⟨rfl, rfl⟩))
    (fun os started H enc _ => FnPre_lifted os started H enc)
#print axioms FnPre_holds
end Go.Proofs.YtabmfaamadbefaaGreat