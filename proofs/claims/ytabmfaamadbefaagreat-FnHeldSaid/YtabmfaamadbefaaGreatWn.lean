/- Several texts in one: Qy, Wn. Each says its own conditions. -/
import Derived.Test.YtabmfaamadbefaaGreatQz
import Derived.Test.YtabmfaamadbefaaGreatRt
import Derived.Test.YtabmfaamadbefaaGreatLq
/- Contracts of RobustPart of both sides. Condition: rows are short. -/
set_option linter.unusedVariables false
set_option linter.unusedSimpArgs false
set_option linter.unusedSectionVars false
namespace Go.Proofs.YtabmfaamadbefaaGreat
open Go.RowKit
set_option maxRecDepth 100000 in
set_option maxHeartbeats 8000000 in
theorem impl_RobustPart_eq {r : RoomV} {Ar1 Ar2 Ar3 : Option Addr} {cr1 cr2 cr3 : Nat} {p : List H3} {Ap : Option Addr} {cp : Nat} {w : World} {out : List H3} {ok : Bool} (Rr : RM w r Ar1 Ar2 cr2 Ar3 cr3) (hsr : r.Short) (Rp : R3 44 w Ap cp p) (hlp : p.length ≤ 1000000000) (hr : Hid (robustR r p = (out, ok))) :
    Calls Tryz.prog 27 #[.agg #[.slice Ar1 r.m.length cr1, .int .i64 r.q, .int .i64 r.bx, .int .i64 r.by_, .int .i64 r.lo, .int .i64 r.hi, .slice Ar2 r.ns.length cr2, .slice Ar3 r.ls.length cr3], .agg #[.slice Ap p.length cp]] w (RegPost w out ok) := by
  obtain ⟨t1, h1⟩ : ∃ t, roomOk r = t := ⟨_, rfl⟩
  obtain ⟨t2, h2⟩ : ∃ t, regionOk p = t := ⟨_, rfl⟩
  have hk := hr.out
  unfold robustR at hk
  rw [h1, h2] at hk
  have H1 := Lib.hid h1
  have H2 := Lib.hid h2
  clear hr h1 h2
  have hc : (t1 = false ∨ (t1 = true ∧ t2 = false)) ∨ (t1 = true ∧ t2 = true) := by cases t1 <;> cases t2 <;> simp
  rcases hc with hc | ⟨rfl, rfl⟩
  · rw [if_neg (by rcases hc with rfl | ⟨rfl, rfl⟩ <;> simp)] at hk
    simp at hk
    obtain ⟨rfl, rfl⟩ := hk
    rcases hc with rfl | ⟨rfl, rfl⟩
    all_goals
      go_enter Tryz.func27, Tryz.ntmps27
      go_wp2_with (first | (go_at_call 13; (first | (with_reducible refine (calls_ov2 (impl_RoomOk_eq (Rr.below (by repeat (first | exact bR | refine bO ?_ | refine bA ?_ | refine bS ?_ | refine bD ?_ | refine bN ?_))) hsr H1)).mono ?_) | refine (calls_ov (impl_RoomOk_eq (Rr.below (by repeat (first | exact bR | refine bO ?_ | refine bA ?_ | refine bS ?_ | refine bD ?_ | refine bN ?_))) hsr H1)).mono ?_); rintro e w' ⟨rfl, x, rfl⟩) | (go_at_call 51; (first | (with_reducible refine (calls_ov2 (impl_RegionOk_eq (Rp.below (by repeat (first | exact bR | refine bO ?_ | refine bA ?_ | refine bS ?_ | refine bD ?_ | refine bN ?_))) (by first | omega | exact hlp) H2)).mono ?_) | refine (calls_ov (impl_RegionOk_eq (Rp.below (by repeat (first | exact bR | refine bO ?_ | refine bA ?_ | refine bS ?_ | refine bD ?_ | refine bN ?_))) (by first | omega | exact hlp) H2)).mono ?_); rintro e w' ⟨rfl, x, rfl⟩))
      refine bodyPost_ret (v := .tuple #[.agg #[.slice none 0 0], .bool false]) (by simp [results, Tryz.results27, go_sem]) rfl ⟨none, 0, rfl, RB.nil _ _ _, (by repeat (first | exact bR | refine bO ?_ | refine bA ?_ | refine bS ?_ | refine bD ?_ | refine bN ?_))⟩
  · rw [if_pos ⟨rfl, rfl⟩] at hk
    have HK := Lib.hid hk
    clear hk
    have P := roomOk_parts H1.out
    go_enter Tryz.func27, Tryz.ntmps27
    go_wp2_with fail
    obtain ⟨V, hV⟩ : ∃ V, (((w.alloc (.cells #[.slice Ar1 r.m.length cr1, .int .i64 r.q, .int .i64 r.bx, .int .i64 r.by_, .int .i64 r.lo, .int .i64 r.hi, .slice Ar2 r.ns.length cr2, .slice Ar3 r.ls.length cr3] 28)).alloc (.cells #[.slice Ap p.length cp] 26)).alloc (.cells #[.slice none 0 0] 26)) = V := ⟨_, rfl⟩
    have TV : Below w.heap.size w V := by rw [← hV]; exact (by repeat (first | exact bR | refine bO ?_ | refine bA ?_ | refine bS ?_ | refine bD ?_ | refine bN ?_))
    have X0 : V.heap[w.heap.size]? = some (.cells #[.slice Ar1 r.m.length cr1, .int .i64 r.q, .int .i64 r.bx, .int .i64 r.by_, .int .i64 r.lo, .int .i64 r.hi, .slice Ar2 r.ns.length cr2, .slice Ar3 r.ls.length cr3] 28 (0, 0)) := by rw [← hV]; exact ((heap_old_at (by first | (simp; done) | (simp <;> omega))).trans ((heap_old_at (by first | (simp; done) | (simp <;> omega))).trans (heap_new_at (by first | (simp; done) | (simp <;> omega)) rfl)))
    have X1 : V.heap[w.heap.size + 1]? = some (.cells #[.slice Ap p.length cp] 26 (0, 0)) := by rw [← hV]; exact ((heap_old_at (by first | (simp; done) | (simp <;> omega))).trans (heap_new_at (by first | (simp; done) | (simp <;> omega)) rfl))
    have X2 : V.heap[w.heap.size + 1 + 1]? = some (.cells #[.slice none 0 0] 26 (0, 0)) := by rw [← hV]; exact (heap_new_at (by first | (simp; done) | (simp <;> omega)) rfl)
    rw [hV]
    clear hV
    have hbb2 : w.heap.size ≤ w.heap.size + 1 + 1 := by omega
    generalize w.heap.size + 1 + 1 = ba2 at X2 hbb2 ⊢
    have hbb1 : w.heap.size ≤ w.heap.size + 1 := by omega
    generalize w.heap.size + 1 = ba1 at X1 hbb1 ⊢
    obtain ⟨W0, hW⟩ : ∃ W0, W0 = V := ⟨_, rfl⟩
    rw [← hW]
    have T : Below V.heap.size V W0 := by rw [hW]; exact Below.refl _ _
    clear hW
    have Br := box_below (Lib.hid X0) T
    clear X0
    have Bp := box_below (Lib.hid X1) T
    clear X1
    have Bo := box_below (Lib.hid X2) T
    clear X2
    have s0 : w.heap.size ≤ V.heap.size := TV.size
    obtain ⟨ba0, hba0⟩ : ∃ b, w.heap.size = b := ⟨_, rfl⟩
    rw [hba0] at Br
    try rw [hba0]
    have Sr := Rr.below (TV.trans (T.mono s0))
    have Sp := Rp.below (TV.trans (T.mono s0))
    refine (calls_ov (impl_RoomOk_eq (Sr.below (by repeat (first | exact bR | refine bO ?_ | refine bA ?_ | refine bS ?_ | refine bD ?_ | refine bN ?_))) hsr H1)).mono ?_
    rintro e w' ⟨rfl, x, rfl⟩
    obtain ⟨W1, hW⟩ : ∃ W1, W1 = ov W0 x := ⟨_, rfl⟩
    rw [← hW]
    have K : Below W0.heap.size W0 W1 := by rw [hW]; exact (by repeat (first | exact bR | refine bO ?_ | refine bA ?_ | refine bS ?_ | refine bD ?_ | refine bN ?_))
    clear hW
    replace T := T.trans (K.mono T.size)
    replace Br := box_below Br K
    replace Bp := box_below Bp K
    replace Bo := box_below Bo K
    clear K Sr Sp
    have Sr := Rr.below (TV.trans (T.mono s0))
    have Sp := Rp.below (TV.trans (T.mono s0))
    obtain ⟨Brc0, Brc1, Brc2, Brc3, Brc4, Brc5, Brc6, Brc7, Brl⟩ := cb8 Br
    obtain ⟨Bpc0, Bpl⟩ := cb1 Bp
    obtain ⟨Boc0, Bol⟩ := cb1 Bo
    have Bof0 := frozen_blk (j := 0) Bo.out
    go_wp2_with fail
    clear Brc0 Brc1 Brc2 Brc3 Brc4 Brc5 Brc6 Brc7 Bpc0 Boc0 Brl Bpl Bol
    clear Bof0
    refine (calls_ov (impl_RegionOk_eq (Sp.below (by repeat (first | exact bR | refine bO ?_ | refine bA ?_ | refine bS ?_ | refine bD ?_ | refine bN ?_))) (by first | omega | exact hlp) H2)).mono ?_
    rintro e w' ⟨rfl, x, rfl⟩
    obtain ⟨W2, hW⟩ : ∃ W2, W2 = ov W1 x := ⟨_, rfl⟩
    rw [← hW]
    have K : Below W1.heap.size W1 W2 := by rw [hW]; exact (by repeat (first | exact bR | refine bO ?_ | refine bA ?_ | refine bS ?_ | refine bD ?_ | refine bN ?_))
    clear hW
    replace T := T.trans (K.mono T.size)
    replace Br := box_below Br K
    replace Bp := box_below Bp K
    replace Bo := box_below Bo K
    clear K Sr Sp
    have Sr := Rr.below (TV.trans (T.mono s0))
    have Sp := Rp.below (TV.trans (T.mono s0))
    obtain ⟨Brc0, Brc1, Brc2, Brc3, Brc4, Brc5, Brc6, Brc7, Brl⟩ := cb8 Br
    obtain ⟨Bpc0, Bpl⟩ := cb1 Bp
    obtain ⟨Boc0, Bol⟩ := cb1 Bo
    have Bof0 := frozen_blk (j := 0) Bo.out
    go_wp2_with fail
    clear Brc0 Brc1 Brc2 Brc3 Brc4 Brc5 Brc6 Brc7 Bpc0 Boc0 Brl Bpl Bol
    clear Bof0
    refine (erode_eq P.nk P.ns (Sr.nr.below (by repeat (first | exact bR | refine bO ?_ | refine bA ?_ | refine bS ?_ | refine bD ?_ | refine bN ?_))) (Sp.below (by repeat (first | exact bR | refine bO ?_ | refine bA ?_ | refine bS ?_ | refine bD ?_ | refine bN ?_))) H2.out HK).mono ?_
    rintro e W3 ⟨aq, dq, rfl, Xq, hb⟩
    have K : Below W2.heap.size W2 W3 := Below.trans (by repeat (first | exact bR | refine bO ?_ | refine bA ?_ | refine bS ?_ | refine bD ?_ | refine bN ?_)) (hb.mono (by first | exact Nat.le_refl _ | simp [ov_size]))
    replace Xq := Xq.weak (B' := V.heap.size) (by have := T.size; (try simp [ov_size]); omega)
    clear hb
    replace T := T.trans (K.mono T.size)
    replace Br := box_below Br K
    replace Bp := box_below Bp K
    replace Bo := box_below Bo K
    clear K Sr Sp
    have Sr := Rr.below (TV.trans (T.mono s0))
    have Sp := Rp.below (TV.trans (T.mono s0))
    obtain ⟨Brc0, Brc1, Brc2, Brc3, Brc4, Brc5, Brc6, Brc7, Brl⟩ := cb8 Br
    obtain ⟨Bpc0, Bpl⟩ := cb1 Bp
    obtain ⟨Boc0, Bol⟩ := cb1 Bo
    have Bof0 := frozen_blk (j := 0) Bo.out
    go_wp2
    refine bodyPost_ret (v := .tuple #[.agg #[.slice aq out.length dq], .bool ok]) (by simp [results, Tryz.results27, go_sem, Boc0, Bol]) rfl ⟨aq, dq, rfl, (Xq.weak s0).set_box Bo.out (by decide), (TV.trans (T.mono s0)).setCell hbb2 _⟩

end Go.Proofs.YtabmfaamadbefaaGreat
/- Contracts of within, IsWithin, CornersOf and IsCorner, of the program and of the reference. No condition but that lengths are ints. -/
set_option linter.unusedSimpArgs false
set_option linter.unusedVariables false
set_option linter.unusedSectionVars false
namespace Go.Proofs.YtabmfaamadbefaaGreat
open Go.RowKit
theorem within_false {cs qs : List H3} {k : Nat} (hk : k < cs.length) (h : hasL qs cs[k] = false) : cs.all (hasL qs) = false := by
  rw [List.all_eq_false]; exact ⟨_, List.getElem_mem hk, by rw [h]; simp⟩
set_option maxRecDepth 100000 in
set_option maxHeartbeats 4000000 in
theorem impl_within_eq {ps qs : List H3} {v : Bool} {A1 A2 : Option Addr} {c1 c2 : Nat} {w : World} (kp : regionOk ps = true) (kq : regionOk qs = true) (R1 : R3 44 w A1 c1 ps) (R2 : R3 44 w A2 c2 qs) (hv : Hid (withinL ps qs = v)) :
    Calls Tryz.prog 53 #[.agg #[.slice A1 ps.length c1], .agg #[.slice A2 qs.length c2]] w fun e w' => e = .returned (.bool v) ∧ Below w.heap.size w w' := by
  obtain ⟨G1, l1⟩ := region_good kp
  obtain ⟨G2, l2⟩ := region_good kq
  have ks := corners_spots kp
  have hcl := cornersL_length ps
  have HV := hv.out
  unfold withinL at HV
  have hz := Lib.hid (fun h : ps = [] => (by subst h; rfl : cornersL ps = []))
  obtain ⟨cs, hcs⟩ : ∃ cs, cornersL ps = cs := ⟨_, rfl⟩
  have HC := fun W A c (R : R3 44 W A c ps) => corners_any G1 R (by omega)
  rw [hcs] at ks hcl HV hz HC
  have KS := Lib.hid ks
  have HV2 := Lib.hid HV
  have HCC := Lib.hid HC
  clear hcs ks HV hv kp kq G1 HC
  go_enter Tryz.func53, Tryz.ntmps53
  go_wp2_with fail
  refine (HCC.out _ _ _ (by repeat (first | assumption | refine R3.ov ?_ _ | refine R3.alloc ?_ _))).mono ?_
  rintro e w1 ⟨A3, c3, rfl, RS, hb1⟩
  have T0 : Below w.heap.size w w1 := Below.trans (by repeat (first | exact bR | refine bO ?_ | refine bA ?_ | refine bS ?_ | refine bD ?_ | refine bN ?_)) (hb1.mono (by first | omega | (simp [ov_size] <;> omega)))
  have X2 := Lib.hid ((hb1.block (w.heap.size + 1) (by first | omega | (simp [ov_size] <;> omega))).trans (heap_new_at (r := some (.cells #[.slice A2 qs.length c2] 26 (0, 0))) (by simp) rfl))
  have RW := R2.below T0
  replace RS := RS.r3
  clear hb1 R1
  have t0 := T0.size
  generalize w.heap.size + 1 = b2 at X2 ⊢
  go_wp2
  go_loopw [10] (fun i wr => ∃ k : Nat, k ≤ ps.length ∧ i = .int .i64 k ∧ Hid ((cs.take k).all (hasL qs) = true) ∧ Below w1.heap.size w1 wr) (fun i _ => ps.length - (intOf i).toNat)
  case atStart => exact ⟨0, Nat.zero_le _, rfl, Lib.hid rfl, Below.refl _ _⟩
  case round =>
    obtain ⟨k, hk, rfl, HA, hb⟩ := hrel
    have hbs := hb.size
    have hbw : Below w.heap.size w wr := T0.trans (hb.mono t0)
    have X3 := box_below X2 hb
    have x1 := cell_blk (j := 0) (v := .slice A2 qs.length c2) X3.out rfl
    have lx := (Array.getElem?_eq_some_iff.1 X3.out).1
    by_cases hlt : k < ps.length
    · have hlc : k < cs.length := by omega
      obtain ⟨g0, rfl, hg0, z0, z1, z2⟩ := (RS.below hb).at_ hlc
      have kc := KS.out _ (List.getElem_mem hlc)
      obtain ⟨u, hu⟩ : ∃ u, hasL qs cs[k] = u := ⟨_, rfl⟩
      have HU := Lib.hid hu
      have HT := Lib.hid (all_take_succ (hasL qs) cs k hlc)
      have RQ := RW.below hb
      cases u with
      | false =>
        obtain rfl : v = false := by rw [← HV2.out]; exact within_false hlc hu
        clear hu
        go_wp2_with ((go_at_call 69; (first | (with_reducible refine (calls_ov2 (holds_eq G2 kc (by repeat (first | assumption | refine R3.ov ?_ _ | refine R3.alloc ?_ _)) (by omega) HU)).mono ?_) | refine (calls_ov (holds_eq G2 kc (by repeat (first | assumption | refine R3.ov ?_ _ | refine R3.alloc ?_ _)) (by omega) HU)).mono ?_); rintro e w' ⟨rfl, x, rfl⟩))
        go_ret
        exact ⟨rfl, (by repeat (first | exact hbw | refine bO ?_ | refine bA ?_ | refine bS ?_ | refine bD ?_ | refine bN ?_))⟩
      | true =>
        have HN : Hid ((cs.take (k + 1)).all (hasL qs) = true) := Lib.hid (by rw [HT.out, HA.out, hu]; rfl)
        clear hu
        go_wp2_with ((go_at_call 69; (first | (with_reducible refine (calls_ov2 (holds_eq G2 kc (by repeat (first | assumption | refine R3.ov ?_ _ | refine R3.alloc ?_ _)) (by omega) HU)).mono ?_) | refine (calls_ov (holds_eq G2 kc (by repeat (first | assumption | refine R3.ov ?_ _ | refine R3.alloc ?_ _)) (by omega) HU)).mono ?_); rintro e w' ⟨rfl, x, rfl⟩))
        go_roundw
        case rel => exact ⟨k + 1, by omega, by go_num, HN, (by repeat (first | exact hb | refine bO ?_ | refine bA ?_ | refine bS ?_ | refine bD ?_ | refine bN ?_))⟩
        case measure => simp [intOf] <;> omega
    · obtain rfl : k = ps.length := by omega
      obtain rfl : v = true := by rw [← HV2.out, ← HA.out, ← hcl, List.take_length]
      go_wp2
      go_ret
      exact ⟨rfl, (by repeat (first | exact hbw | refine bO ?_ | refine bA ?_ | refine bS ?_ | refine bD ?_ | refine bN ?_))⟩
set_option maxRecDepth 100000 in
theorem impl_IsWithin_eq {ps qs : List H3} {v : Bool} {A1 A2 : Option Addr} {c1 c2 : Nat} {w : World} (R1 : R3 44 w A1 c1 ps) (l1 : ps.length ≤ 1000000000) (R2 : R3 44 w A2 c2 qs) (l2 : qs.length ≤ 1000000000) (hv : Hid (isWithinR ps qs = v)) :
    Calls Tryz.prog 15 #[.agg #[.slice A1 ps.length c1], .agg #[.slice A2 qs.length c2]] w fun e w' => e = .returned (.bool v) ∧ Below w.heap.size w w' := by
  have h := hv.out
  unfold isWithinR at h
  rcases chain2 (regionOk ps) (regionOk qs) with h1 | ⟨h1, h2⟩ | ⟨h1, h2⟩
  · rw [h1] at h
    obtain rfl : false = v := h
    have H1 := Lib.hid h1
    clear h1 hv
    go_enter Tryz.func15, Tryz.ntmps15
    go_wp2_with ((go_at_call 51; (first | (with_reducible refine (calls_ov2 (impl_RegionOk_eq (by repeat (first | assumption | refine R3.ov ?_ _ | refine R3.alloc ?_ _)) l1 H1)).mono ?_) | refine (calls_ov (impl_RegionOk_eq (by repeat (first | assumption | refine R3.ov ?_ _ | refine R3.alloc ?_ _)) l1 H1)).mono ?_); rintro e w' ⟨rfl, x, rfl⟩))
    go_ret
    exact ⟨rfl, (by repeat (first | exact bR | refine bO ?_ | refine bA ?_ | refine bS ?_ | refine bD ?_ | refine bN ?_))⟩
  · rw [h1, h2] at h
    obtain rfl : false = v := h
    have H1 := Lib.hid h1
    have H2 := Lib.hid h2
    clear h1 h2 hv
    go_enter Tryz.func15, Tryz.ntmps15
    go_wp2_with (first | (go_at_call 51; (first | (with_reducible refine (calls_ov2 (impl_RegionOk_eq (by first | exact (R1.below (by repeat (first | exact bR | refine bO ?_ | refine bA ?_ | refine bS ?_ | refine bD ?_ | refine bN ?_))) | exact (R2.below (by repeat (first | exact bR | refine bO ?_ | refine bA ?_ | refine bS ?_ | refine bD ?_ | refine bN ?_)))) (by first | exact l1 | exact l2) (by first | exact H1 | exact H2))).mono ?_) | refine (calls_ov (impl_RegionOk_eq (by first | exact (R1.below (by repeat (first | exact bR | refine bO ?_ | refine bA ?_ | refine bS ?_ | refine bD ?_ | refine bN ?_))) | exact (R2.below (by repeat (first | exact bR | refine bO ?_ | refine bA ?_ | refine bS ?_ | refine bD ?_ | refine bN ?_)))) (by first | exact l1 | exact l2) (by first | exact H1 | exact H2))).mono ?_); rintro e w' ⟨rfl, x, rfl⟩))
    go_ret
    exact ⟨rfl, (by repeat (first | exact bR | refine bO ?_ | refine bA ?_ | refine bS ?_ | refine bD ?_ | refine bN ?_))⟩
  · rw [h1, h2] at h
    have HW : Hid (withinL ps qs = v) := Lib.hid h
    have H1 := Lib.hid h1
    have H2 := Lib.hid h2
    have HC := Lib.hid (fun W (R1 : R3 44 W A1 c1 ps) (R2 : R3 44 W A2 c2 qs) => impl_within_eq h1 h2 R1 R2 HW)
    clear h h1 h2 hv
    go_enter Tryz.func15, Tryz.ntmps15
    go_wp2_with (first | (go_at_call 51; (first | (with_reducible refine (calls_ov2 (impl_RegionOk_eq (by first | exact (R1.below (by repeat (first | exact bR | refine bO ?_ | refine bA ?_ | refine bS ?_ | refine bD ?_ | refine bN ?_))) | exact (R2.below (by repeat (first | exact bR | refine bO ?_ | refine bA ?_ | refine bS ?_ | refine bD ?_ | refine bN ?_)))) (by first | exact l1 | exact l2) (by first | exact H1 | exact H2))).mono ?_) | refine (calls_ov (impl_RegionOk_eq (by first | exact (R1.below (by repeat (first | exact bR | refine bO ?_ | refine bA ?_ | refine bS ?_ | refine bD ?_ | refine bN ?_))) | exact (R2.below (by repeat (first | exact bR | refine bO ?_ | refine bA ?_ | refine bS ?_ | refine bD ?_ | refine bN ?_)))) (by first | exact l1 | exact l2) (by first | exact H1 | exact H2))).mono ?_); rintro e w' ⟨rfl, x, rfl⟩) | (go_at_call 53; (first | (with_reducible refine (calls_ov2 (HC.out _ (by exact (R1.below (by repeat (first | exact bR | refine bO ?_ | refine bA ?_ | refine bS ?_ | refine bD ?_ | refine bN ?_)))) (by exact (R2.below (by repeat (first | exact bR | refine bO ?_ | refine bA ?_ | refine bS ?_ | refine bD ?_ | refine bN ?_)))))).mono ?_) | refine (calls_ov (HC.out _ (by exact (R1.below (by repeat (first | exact bR | refine bO ?_ | refine bA ?_ | refine bS ?_ | refine bD ?_ | refine bN ?_)))) (by exact (R2.below (by repeat (first | exact bR | refine bO ?_ | refine bA ?_ | refine bS ?_ | refine bD ?_ | refine bN ?_)))))).mono ?_); rintro e w' ⟨rfl, x, rfl⟩))
    go_ret
    exact ⟨rfl, (by repeat (first | exact bR | refine bO ?_ | refine bA ?_ | refine bS ?_ | refine bD ?_ | refine bN ?_))⟩

set_option maxRecDepth 100000 in
theorem impl_CornersOf_eq {hs out : List H3} {A : Option Addr} {c : Nat} {w : World} (R : R3 44 w A c hs) (hl : hs.length ≤ 1000000000) (hr : Hid (cornersR hs = out)) :
    Calls Tryz.prog 41 #[.agg #[.slice A hs.length c]] w (SpotsPost w out.length out) := by
  have h := hr.out
  unfold cornersR at h
  obtain ⟨rk, hrk⟩ : ∃ v, regionOk hs = v := ⟨_, rfl⟩
  rw [hrk] at h
  have HRK := Lib.hid hrk
  cases rk with
  | false =>
    rw [if_neg (by simp)] at h
    subst h
    clear hrk hr
    go_enter Tryz.func41, Tryz.ntmps41
    go_wp2_with (first | (go_at_call 51; (first | (with_reducible refine (calls_ov2 (impl_RegionOk_eq (by repeat (first | assumption | refine R3.ov ?_ _ | refine R3.alloc ?_ _)) hl HRK)).mono ?_) | refine (calls_ov (impl_RegionOk_eq (by repeat (first | assumption | refine R3.ov ?_ _ | refine R3.alloc ?_ _)) hl HRK)).mono ?_); rintro e w' ⟨rfl, x, rfl⟩))
    go_ret
    exact ⟨none, 0, rfl, RB.nil _ _ _, (by repeat (first | exact bR | refine bO ?_ | refine bA ?_ | refine bS ?_ | refine bD ?_ | refine bN ?_))⟩
  | true =>
    rw [if_pos rfl] at h
    obtain ⟨G, l1⟩ := region_good hrk
    have hcl := cornersL_length hs
    have HC := fun W A c (R : R3 44 W A c hs) => corners_any G R (by omega)
    rw [h] at hcl HC
    have HCC := Lib.hid HC
    clear hrk hr h HC
    go_enter Tryz.func41, Tryz.ntmps41
    go_wp2_with (first | (go_at_call 51; (first | (with_reducible refine (calls_ov2 (impl_RegionOk_eq (by repeat (first | assumption | refine R3.ov ?_ _ | refine R3.alloc ?_ _)) (by omega) HRK)).mono ?_) | refine (calls_ov (impl_RegionOk_eq (by repeat (first | assumption | refine R3.ov ?_ _ | refine R3.alloc ?_ _)) (by omega) HRK)).mono ?_); rintro e w' ⟨rfl, x, rfl⟩))
    refine (HCC.out _ _ _ (R.below (by repeat (first | exact bR | refine bO ?_ | refine bA ?_ | refine bS ?_ | refine bD ?_ | refine bN ?_)))).mono ?_
    rintro e w1 ⟨A3, c3, rfl, RS, hb1⟩
    have T0 : Below w.heap.size w w1 := Below.trans (by repeat (first | exact bR | refine bO ?_ | refine bA ?_ | refine bS ?_ | refine bD ?_ | refine bN ?_)) (hb1.mono (by first | omega | (simp [ov_size] <;> omega)))
    replace RS := RS.weak (B' := w.heap.size) (by first | omega | (simp [ov_size] <;> omega))
    clear hb1
    go_wp2
    go_ret
    exact ⟨A3, c3, by rw [hcl]; rfl, RS, T0⟩

@[go_sem] theorem run_eql_spot (a b c a' b' c' : Int) (w : World) : (binOp .eql 52 (.agg #[.int .i64 a, .int .i64 b, .int .i64 c]) (.agg #[.int .i64 a', .int .i64 b', .int .i64 c'])).run Tryz.prog w = .ok (.bool (decide (a = a' ∧ b = b' ∧ c = c'))) w := by
  rw [run_eql_struct, run_equal_spot]; rfl
def isCornerR (hs : List H3) (s : H3) : Bool := decide (s ∈ cornersR hs)
theorem mem_take_succ {xs : List H3} {s : H3} {k : Nat} (hk : k < xs.length) (h : s ∉ xs.take k) (hn : ¬ xs[k] = s) : s ∉ xs.take (k + 1) := by
  rw [List.take_succ_eq_append_getElem hk]
  intro hm
  rcases List.mem_append.1 hm with h1 | h1
  · exact h h1
  · simp at h1; exact hn h1.symm
theorem h3_parts (x s : H3) : (x = s ∧ x.a = s.a ∧ x.b = s.b ∧ x.c = s.c) ∨ (x ≠ s ∧ (¬ x.a = s.a ∨ (x.a = s.a ∧ ¬ x.b = s.b) ∨ (x.a = s.a ∧ x.b = s.b ∧ ¬ x.c = s.c))) := by
  have := @h3_eq x s
  by_cases e1 : x.a = s.a <;> by_cases e2 : x.b = s.b <;> by_cases e3 : x.c = s.c <;> simp_all

def GSp (xs : List H3) (w0 : World) (v : Value) (w : World) : Prop := ∃ A c, v = .slice A xs.length c ∧ RB w0.heap.size 52 w A c xs
theorem owned_sp (xs : List H3) : Owned 26 (GSp xs) :=
  ⟨fun w0 v w x ⟨A, c, e, R⟩ => ⟨A, c, e, R.below (below_ov _ _ (Below.refl _ _) (Nat.le_refl _))⟩, fun w0 v w b cur arr hb hs ⟨A, c, e, R⟩ => ⟨A, c, e, R.set_row hb (by decide)⟩⟩
end Go.Proofs.YtabmfaamadbefaaGreat