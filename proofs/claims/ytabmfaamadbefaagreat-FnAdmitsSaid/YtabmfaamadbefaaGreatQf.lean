/- Contracts of RunRounds, of the program and of the reference. Condition: rows are short. -/
import Derived.Test.YtabmfaamadbefaaGreatQe
import Derived.Test.YtabmfaamadbefaaGreatQb
import Derived.Test.YtabmfaamadbefaaGreatGt
import Derived.Test.YtabmfaamadbefaaGreatQz
import Derived.Test.YtabmfaamadbefaaGreatHsp
import Derived.Test.YtabmfaamadbefaaGreatLk
set_option linter.unusedVariables false
set_option linter.unusedSimpArgs false
set_option linter.unusedSectionVars false
namespace Go.Proofs.YtabmfaamadbefaaGreat
open Go.RowKit
set_option maxRecDepth 100000 in
set_option maxHeartbeats 8000000 in
theorem impl_RunRounds_eq {r : RoomV} {Ar1 Ar2 Ar3 : Option Addr} {cr1 cr2 cr3 : Nat} {n1 : Int} {w : World} {out : List H3} {kn : Int} {ks ok : Bool} (Rr : RM w r Ar1 Ar2 cr2 Ar3 cr3) (hsr : r.Short) (hr : Hid (runR r n1 = ((out, kn, ks), ok))) :
    Calls Tryz.prog 21 #[.agg #[.slice Ar1 r.m.length cr1, .int .i64 r.q, .int .i64 r.bx, .int .i64 r.by_, .int .i64 r.lo, .int .i64 r.hi, .slice Ar2 r.ns.length cr2, .slice Ar3 r.ls.length cr3], .int .i64 n1] w (KeptPost w out kn ks ok) := by
  obtain ⟨t1, h1⟩ : ∃ t, roomOk r = t := ⟨_, rfl⟩
  obtain ⟨t2, h2⟩ : ∃ t, inR n1 0 12 = t := ⟨_, rfl⟩
  have hk := hr.out
  unfold runR at hk
  rw [h1, h2] at hk
  have H1 := Lib.hid h1
  have H2 := Lib.hid h2
  clear hr
  have hc : (t2 = false ∨ (t2 = true ∧ t1 = false)) ∨ (t1 = true ∧ t2 = true) := by cases t1 <;> cases t2 <;> simp
  rcases hc with hc | ⟨rfl, rfl⟩
  · rw [if_neg (by rcases hc with rfl | ⟨rfl, rfl⟩ <;> simp)] at hk
    simp at hk
    obtain ⟨⟨rfl, rfl, rfl⟩, rfl⟩ := hk
    clear h1 h2
    rcases hc with rfl | ⟨rfl, rfl⟩
    all_goals
      go_enter Tryz.func21, Tryz.ntmps21
      go_wp2_with (first | (go_at_call 13; (first | (with_reducible refine (calls_ov2 (impl_RoomOk_eq (Rr.below (by repeat (first | exact bR | refine bO ?_ | refine bA ?_ | refine bS ?_ | refine bD ?_ | refine bN ?_))) hsr H1)).mono ?_) | refine (calls_ov (impl_RoomOk_eq (Rr.below (by repeat (first | exact bR | refine bO ?_ | refine bA ?_ | refine bS ?_ | refine bD ?_ | refine bN ?_))) hsr H1)).mono ?_); rintro e w' ⟨rfl, x, rfl⟩) | (go_at_call 60; refine (inRange_eq (by exact H2.out)).mono ?_; rintro e w' ⟨rfl, rfl⟩))
      refine bodyPost_ret (v := .tuple #[.agg #[.slice none 0 0, .int .i64 0, .bool false], .bool false]) (by simp [results, Tryz.results21, go_sem]) rfl ⟨none, 0, rfl, RB.nil _ _ _, (by repeat (first | exact bR | refine bO ?_ | refine bA ?_ | refine bS ?_ | refine bD ?_ | refine bN ?_))⟩
  · rw [if_pos ⟨rfl, rfl⟩] at hk
    have P := roomOk_parts h1
    have hl40 := (region_good P.lk).2
    obtain ⟨n, rfl⟩ : ∃ n : Nat, n1 = (n : Int) := ⟨n1.toNat, by have := (inR_iff).1 h2; omega⟩
    have hn12 : n ≤ 12 := by have := (inR_iff).1 h2; omega
    rw [Int.toNat_natCast] at hk
    have HK := Lib.hid hk
    have KP := Lib.hid P
    have LK := Lib.hid P.lk
    clear h1 h2 hk P
    go_enter Tryz.func21, Tryz.ntmps21
    go_wp2_with fail
    obtain ⟨V, hV⟩ : ∃ V, ((w.alloc (.cells #[.slice Ar1 r.m.length cr1, .int .i64 r.q, .int .i64 r.bx, .int .i64 r.by_, .int .i64 r.lo, .int .i64 r.hi, .slice Ar2 r.ns.length cr2, .slice Ar3 r.ls.length cr3] 28)).alloc (.cells #[.slice none 0 0, .int .i64 0, .bool false] 47)) = V := ⟨_, rfl⟩
    have TV : Below w.heap.size w V := by rw [← hV]; exact (by repeat (first | exact bR | refine bO ?_ | refine bA ?_ | refine bS ?_ | refine bD ?_ | refine bN ?_))
    have X0 : V.heap[w.heap.size]? = some (.cells #[.slice Ar1 r.m.length cr1, .int .i64 r.q, .int .i64 r.bx, .int .i64 r.by_, .int .i64 r.lo, .int .i64 r.hi, .slice Ar2 r.ns.length cr2, .slice Ar3 r.ls.length cr3] 28 (0, 0)) := by rw [← hV]; exact ((heap_old_at (by first | (simp; done) | (simp <;> omega))).trans (heap_new_at (by first | (simp; done) | (simp <;> omega)) rfl))
    have X1 : V.heap[w.heap.size + 1]? = some (.cells #[.slice none 0 0, .int .i64 0, .bool false] 47 (0, 0)) := by rw [← hV]; exact (heap_new_at (by first | (simp; done) | (simp <;> omega)) rfl)
    rw [hV]
    clear hV
    have hbb1 : w.heap.size ≤ w.heap.size + 1 := by omega
    generalize w.heap.size + 1 = ba1 at X1 hbb1 ⊢
    obtain ⟨W0, hW⟩ : ∃ W0, W0 = V := ⟨_, rfl⟩
    rw [← hW]
    have hWV := hW
    have T : Below V.heap.size V W0 := by rw [hW]; exact Below.refl _ _
    clear hW
    have Br := box_below (Lib.hid X0) T
    clear X0
    have Bo := box_below (Lib.hid X1) T
    clear X1
    have s0 : w.heap.size ≤ V.heap.size := TV.size
    obtain ⟨ba0, hba0⟩ : ∃ b, w.heap.size = b := ⟨_, rfl⟩
    rw [hba0] at Br
    try rw [hba0]
    have BrV0 : Hid (V.heap[ba0]? = some (.cells #[.slice Ar1 r.m.length cr1, .int .i64 r.q, .int .i64 r.bx, .int .i64 r.by_, .int .i64 r.lo, .int .i64 r.hi, .slice Ar2 r.ns.length cr2, .slice Ar3 r.ls.length cr3] 28 (0, 0))) := by rw [← hWV]; exact Br
    have BoV0 : Hid (V.heap[ba1]? = some (.cells #[.slice none 0 0, .int .i64 0, .bool false] 47 (0, 0))) := by rw [← hWV]; exact Bo
    clear hWV
    have Sr := Rr.below (TV.trans (T.mono s0))
    refine (inRange_eq (by exact H2.out)).mono ?_
    rintro e w' ⟨rfl, rfl⟩
    obtain ⟨Brc0, Brc1, Brc2, Brc3, Brc4, Brc5, Brc6, Brc7, Brl⟩ := cb8 Br
    obtain ⟨Boc0, Boc1, Boc2, Bol⟩ := cb3 Bo
    have Bof0 := frozen_blk (j := 0) Bo.out
    have Bof1 := frozen_blk (j := 1) Bo.out
    have Bof2 := frozen_blk (j := 2) Bo.out
    go_wp2_with fail
    clear Brc0 Brc1 Brc2 Brc3 Brc4 Brc5 Brc6 Brc7 Boc0 Boc1 Boc2 Brl Bol
    clear Bof0 Bof1 Bof2
    refine (calls_ov (impl_RoomOk_eq (Sr.below (by repeat (first | exact bR | refine bO ?_ | refine bA ?_ | refine bS ?_ | refine bD ?_ | refine bN ?_))) hsr H1)).mono ?_
    rintro e w' ⟨rfl, x, rfl⟩
    obtain ⟨W1, hW⟩ : ∃ W1, W1 = ov W0 x := ⟨_, rfl⟩
    rw [← hW]
    have K : Below W0.heap.size W0 W1 := by rw [hW]; exact (by repeat (first | exact bR | refine bO ?_ | refine bA ?_ | refine bS ?_ | refine bD ?_ | refine bN ?_))
    clear hW
    replace T := T.trans (K.mono T.size)
    replace Br := box_below Br K
    replace Bo := box_below Bo K
    clear K Sr
    have Sr := Rr.below (TV.trans (T.mono s0))
    obtain ⟨Brc0, Brc1, Brc2, Brc3, Brc4, Brc5, Brc6, Brc7, Brl⟩ := cb8 Br
    obtain ⟨Boc0, Boc1, Boc2, Bol⟩ := cb3 Bo
    have Bof0 := frozen_blk (j := 0) Bo.out
    have Bof1 := frozen_blk (j := 1) Bo.out
    have Bof2 := frozen_blk (j := 2) Bo.out
    go_wp2_with fail
    clear Brc0 Brc1 Brc2 Brc3 Brc4 Brc5 Brc6 Brc7 Boc0 Boc1 Boc2 Brl Bol
    clear Bof0 Bof1 Bof2
    refine (copyRegion_eq (Sr.lr.below (by repeat (first | exact bR | refine bO ?_ | refine bA ?_ | refine bS ?_ | refine bD ?_ | refine bN ?_))) (by omega)).mono ?_
    rintro e W2 ⟨ap, dp, rfl, Xp, hb⟩
    have K : Below W1.heap.size W1 W2 := Below.trans (by repeat (first | exact bR | refine bO ?_ | refine bA ?_ | refine bS ?_ | refine bD ?_ | refine bN ?_)) (hb.mono (by first | exact Nat.le_refl _ | simp [ov_size]))
    replace Xp := Xp.weak (B' := V.heap.size) (by have := T.size; (try simp [ov_size]); omega)
    clear hb
    replace T := T.trans (K.mono T.size)
    replace Br := box_below Br K
    replace Bo := box_below Bo K
    clear K Sr
    have Sr := Rr.below (TV.trans (T.mono s0))
    obtain ⟨Brc0, Brc1, Brc2, Brc3, Brc4, Brc5, Brc6, Brc7, Brl⟩ := cb8 Br
    obtain ⟨Boc0, Boc1, Boc2, Bol⟩ := cb3 Bo
    have Bof0 := frozen_blk (j := 0) Bo.out
    have Bof1 := frozen_blk (j := 1) Bo.out
    have Bof2 := frozen_blk (j := 2) Bo.out
    go_wp2_with fail
    clear Brc0 Brc1 Brc2 Brc3 Brc4 Brc5 Brc6 Brc7 Boc0 Boc1 Boc2 Brl Bol
    clear Bof0 Bof1 Bof2
    obtain ⟨bk, hbx⟩ : ∃ b, b = W2.heap.size := ⟨_, rfl⟩
    rw [← hbx]
    obtain ⟨W3, hW⟩ : ∃ W, W = W2.alloc (.cells #[.slice ap r.ls.length dp, .int .i64 0, .bool false] 47) := ⟨_, rfl⟩
    rw [← hW]
    have K : Below W2.heap.size W2 W3 := by rw [hW]; exact (by repeat (first | exact bR | refine bO ?_ | refine bA ?_ | refine bS ?_ | refine bD ?_ | refine bN ?_))
    have hbkV : V.heap.size ≤ bk := by rw [hbx]; exact T.size
    have Bk := Lib.hid (show W3.heap[bk]? = some (.cells #[.slice ap r.ls.length dp, .int .i64 0, .bool false] 47 (0, 0)) by rw [hW, hbx]; exact heap_alloc_new _ _)
    clear hW hbx
    replace T := T.trans (K.mono T.size)
    replace Br := box_below Br K
    replace Bo := box_below Bo K
    replace Xp := Xp.below K
    clear K Sr
    have Sr := Rr.below (TV.trans (T.mono s0))
    have hbk : V.heap.size ≤ bk := by
      have h := (Array.getElem?_eq_some_iff.1 Bk.out).1
      exact hbkV
    have BrV : Hid (V.heap[ba0]? = _) := BrV0
    have BoV : Hid (V.heap[ba1]? = _) := BoV0
    have s1 := T.size
    clear Br Bo Sr
    go_loopw [22] (fun _ wr => ∃ (p : List H3) (k : Nat) (s : Bool) (ap : Option Addr) (dp : Nat), Hid (wr.heap[bk]? = some (.cells #[.slice ap p.length dp, .int .i64 (k : Int), .bool s] 47 (0, 0))) ∧ RB V.heap.size 44 wr ap dp p ∧ Below V.heap.size V wr ∧ k ≤ n ∧ Hid (regionOk p = true) ∧ Hid (keptV (runS r n k p s) = ((out, kn, ks), ok))) (fun _ wr => keptMeas n bk wr)
    case atStart => exact ⟨r.ls, 0, false, ap, dp, Bk, Xp, T, Nat.zero_le _, LK, HK⟩
    case round =>
      clear Bk Xp T
      obtain ⟨p, k, s, ap, dp, Bk, Xp, T, hkn, Kp, HR⟩ := hrel
      have s1 := T.size
      have Br := box_below BrV T
      have Bo := box_below BoV T
      have lp := (region_good Kp.out).2
      have M9 := Lib.hid (keptMeas_at (n := n) Bk)
      have Sr := Rr.below (TV.trans (T.mono s0))
      cases s with
      | true =>
        have hr0 := HR.out
        unfold runS at hr0
        rw [if_pos rfl] at hr0
        simp only [keptV, Prod.mk.injEq] at hr0
        obtain ⟨⟨rfl, rfl, rfl⟩, rfl⟩ := hr0
        rcases Nat.lt_or_ge k n with hlt | hlt
        all_goals
          obtain ⟨Brc0, Brc1, Brc2, Brc3, Brc4, Brc5, Brc6, Brc7, Brl⟩ := cb8 Br
          obtain ⟨Boc0, Boc1, Boc2, Bol⟩ := cb3 Bo
          obtain ⟨Bkc0, Bkc1, Bkc2, Bkl⟩ := cb3 Bk
          have Bkf0 := frozen_blk (j := 0) Bk.out
          have Bkf1 := frozen_blk (j := 1) Bk.out
          have Bkf2 := frozen_blk (j := 2) Bk.out
          have Bof0 := frozen_blk (j := 0) Bo.out
          have Bof1 := frozen_blk (j := 1) Bo.out
          have Bof2 := frozen_blk (j := 2) Bo.out
          have bo0 : Box ba1 47 wr := ⟨_, _, Bo.out⟩
          go_wp2
          refine bodyPost_ret (v := .tuple #[.agg #[.slice ap p.length dp, .int .i64 (k : Int), .bool true], .bool true]) (by simp [results, Tryz.results21, go_sem, Boc0, Boc1, Boc2, Bol]) rfl ⟨ap, dp, rfl, (((Xp.sb (by decide) bo0).sb (by decide) bo0.set).sb (by decide) bo0.set.set).weak s0, ?_⟩
          exact (by repeat (first | exact TV.trans (T.mono s0) | refine bO ?_ | refine bA ?_ | refine bS ?_ | refine bD ?_ | refine bN ?_))
      | false =>
        have hr0 := HR.out
        unfold runS at hr0
        rw [if_neg (by simp)] at hr0
        by_cases hlt : k < n
        case neg =>
          rw [runL_end hlt] at hr0
          simp only [keptV, Prod.mk.injEq] at hr0
          obtain ⟨⟨rfl, rfl, rfl⟩, rfl⟩ := hr0
          obtain ⟨Brc0, Brc1, Brc2, Brc3, Brc4, Brc5, Brc6, Brc7, Brl⟩ := cb8 Br
          obtain ⟨Boc0, Boc1, Boc2, Bol⟩ := cb3 Bo
          obtain ⟨Bkc0, Bkc1, Bkc2, Bkl⟩ := cb3 Bk
          have Bkf0 := frozen_blk (j := 0) Bk.out
          have Bkf1 := frozen_blk (j := 1) Bk.out
          have Bkf2 := frozen_blk (j := 2) Bk.out
          have Bof0 := frozen_blk (j := 0) Bo.out
          have Bof1 := frozen_blk (j := 1) Bo.out
          have Bof2 := frozen_blk (j := 2) Bo.out
          have bo0 : Box ba1 47 wr := ⟨_, _, Bo.out⟩
          go_wp2
          refine bodyPost_ret (v := .tuple #[.agg #[.slice ap p.length dp, .int .i64 (k : Int), .bool false], .bool true]) (by simp [results, Tryz.results21, go_sem, Boc0, Boc1, Boc2, Bol]) rfl ⟨ap, dp, rfl, (((Xp.sb (by decide) bo0).sb (by decide) bo0.set).sb (by decide) bo0.set.set).weak s0, ?_⟩
          exact (by repeat (first | exact TV.trans (T.mono s0) | refine bO ?_ | refine bA ?_ | refine bS ?_ | refine bD ?_ | refine bN ?_))
        obtain ⟨⟨q, v⟩, hq⟩ : ∃ x, keepR r p = x := ⟨_, rfl⟩
        have HQ := Lib.hid hq
        have HQM : Hid (keepM r p = (q, v)) := Lib.hid (by rw [← keepR_true H1.out Kp.out]; exact hq)
        cases v with
        | false =>
          rw [runL_fail hlt (by rw [hq])] at hr0
          simp only [keptV, Prod.mk.injEq] at hr0
          obtain ⟨⟨rfl, rfl, rfl⟩, rfl⟩ := hr0
          clear hq
          obtain ⟨Brc0, Brc1, Brc2, Brc3, Brc4, Brc5, Brc6, Brc7, Brl⟩ := cb8 Br
          obtain ⟨Boc0, Boc1, Boc2, Bol⟩ := cb3 Bo
          obtain ⟨Bkc0, Bkc1, Bkc2, Bkl⟩ := cb3 Bk
          have Bkf0 := frozen_blk (j := 0) Bk.out
          have Bkf1 := frozen_blk (j := 1) Bk.out
          have Bkf2 := frozen_blk (j := 2) Bk.out
          have Bof0 := frozen_blk (j := 0) Bo.out
          have Bof1 := frozen_blk (j := 1) Bo.out
          have Bof2 := frozen_blk (j := 2) Bo.out
          go_wp2_with fail
          clear Brc0 Brc1 Brc2 Brc3 Brc4 Brc5 Brc6 Brc7 Boc0 Boc1 Boc2 Bkc0 Bkc1 Bkc2 Brl Bol Bkl
          clear Bkf0 Bkf1 Bkf2
          clear Bof0 Bof1 Bof2
          refine (impl_keep_eq (Sr.below (by repeat (first | exact bR | refine bO ?_ | refine bA ?_ | refine bS ?_ | refine bD ?_ | refine bN ?_))) hsr ((Xp.below (by repeat (first | exact bR | refine bO ?_ | refine bA ?_ | refine bS ?_ | refine bD ?_ | refine bN ?_))).r3) KP.out Kp.out HQM).mono ?_
          rintro e W104 ⟨aq, dq, rfl, Xq, hb⟩
          have K : Below wr.heap.size wr W104 := Below.trans (by repeat (first | exact bR | refine bO ?_ | refine bA ?_ | refine bS ?_ | refine bD ?_ | refine bN ?_)) (hb.mono (by first | exact Nat.le_refl _ | simp [ov_size]))
          replace Xq := Xq.weak (B' := V.heap.size) (by have := T.size; (try simp [ov_size]); omega)
          clear hb
          replace T := T.trans (K.mono T.size)
          replace Br := box_below Br K
          replace Bo := box_below Bo K
          replace Bk := box_below Bk K
          replace Xp := Xp.below K
          clear K Sr
          have Sr := Rr.below (TV.trans (T.mono s0))
          obtain ⟨Brc0, Brc1, Brc2, Brc3, Brc4, Brc5, Brc6, Brc7, Brl⟩ := cb8 Br
          obtain ⟨Boc0, Boc1, Boc2, Bol⟩ := cb3 Bo
          obtain ⟨Bkc0, Bkc1, Bkc2, Bkl⟩ := cb3 Bk
          have Bkf0 := frozen_blk (j := 0) Bk.out
          have Bkf1 := frozen_blk (j := 1) Bk.out
          have Bkf2 := frozen_blk (j := 2) Bk.out
          have Bof0 := frozen_blk (j := 0) Bo.out
          have Bof1 := frozen_blk (j := 1) Bo.out
          have Bof2 := frozen_blk (j := 2) Bo.out
          go_wp2
          refine bodyPost_ret (v := .tuple #[.agg #[.slice none 0 0, .int .i64 0, .bool false], .bool false]) (by simp [results, Tryz.results21, go_sem, Boc0, Boc1, Boc2, Bol]) rfl ⟨none, 0, rfl, RB.nil _ _ _, ?_⟩
          exact (by repeat (first | exact TV.trans (T.mono s0) | refine bO ?_ | refine bA ?_ | refine bS ?_ | refine bD ?_ | refine bN ?_))
        | true =>
          have kq := Lib.hid (keepR_reg hq)
          have lq := (region_good kq.out).2
          by_cases hqp : q = p
          · have HE : Hid (decide (q = p) = true) := Lib.hid (by simp [hqp])
            have HS : Hid (keptV (runS r n k p true) = ((out, kn, ks), ok)) := Lib.hid (by rw [← hr0, runL_same hlt (by rw [hq, hqp])]; rfl)
            clear hq hr0 hqp
            obtain ⟨Brc0, Brc1, Brc2, Brc3, Brc4, Brc5, Brc6, Brc7, Brl⟩ := cb8 Br
            obtain ⟨Boc0, Boc1, Boc2, Bol⟩ := cb3 Bo
            obtain ⟨Bkc0, Bkc1, Bkc2, Bkl⟩ := cb3 Bk
            have Bkf0 := frozen_blk (j := 0) Bk.out
            have Bkf1 := frozen_blk (j := 1) Bk.out
            have Bkf2 := frozen_blk (j := 2) Bk.out
            have Bof0 := frozen_blk (j := 0) Bo.out
            have Bof1 := frozen_blk (j := 1) Bo.out
            have Bof2 := frozen_blk (j := 2) Bo.out
            go_wp2_with fail
            clear Brc0 Brc1 Brc2 Brc3 Brc4 Brc5 Brc6 Brc7 Boc0 Boc1 Boc2 Bkc0 Bkc1 Bkc2 Brl Bol Bkl
            clear Bkf0 Bkf1 Bkf2
            clear Bof0 Bof1 Bof2
            refine (impl_keep_eq (Sr.below (by repeat (first | exact bR | refine bO ?_ | refine bA ?_ | refine bS ?_ | refine bD ?_ | refine bN ?_))) hsr ((Xp.below (by repeat (first | exact bR | refine bO ?_ | refine bA ?_ | refine bS ?_ | refine bD ?_ | refine bN ?_))).r3) KP.out Kp.out HQM).mono ?_
            rintro e W105 ⟨aq, dq, rfl, Xq, hb⟩
            have K : Below wr.heap.size wr W105 := Below.trans (by repeat (first | exact bR | refine bO ?_ | refine bA ?_ | refine bS ?_ | refine bD ?_ | refine bN ?_)) (hb.mono (by first | exact Nat.le_refl _ | simp [ov_size]))
            replace Xq := Xq.weak (B' := V.heap.size) (by have := T.size; (try simp [ov_size]); omega)
            clear hb
            replace T := T.trans (K.mono T.size)
            replace Br := box_below Br K
            replace Bo := box_below Bo K
            replace Bk := box_below Bk K
            replace Xp := Xp.below K
            clear K Sr
            have Sr := Rr.below (TV.trans (T.mono s0))
            obtain ⟨Brc0, Brc1, Brc2, Brc3, Brc4, Brc5, Brc6, Brc7, Brl⟩ := cb8 Br
            obtain ⟨Boc0, Boc1, Boc2, Bol⟩ := cb3 Bo
            obtain ⟨Bkc0, Bkc1, Bkc2, Bkl⟩ := cb3 Bk
            have Bkf0 := frozen_blk (j := 0) Bk.out
            have Bkf1 := frozen_blk (j := 1) Bk.out
            have Bkf2 := frozen_blk (j := 2) Bk.out
            have Bof0 := frozen_blk (j := 0) Bo.out
            have Bof1 := frozen_blk (j := 1) Bo.out
            have Bof2 := frozen_blk (j := 2) Bo.out
            go_wp2_with fail
            clear Brc0 Brc1 Brc2 Brc3 Brc4 Brc5 Brc6 Brc7 Boc0 Boc1 Boc2 Bkc0 Bkc1 Bkc2 Brl Bol Bkl
            clear Bkf0 Bkf1 Bkf2
            clear Bof0 Bof1 Bof2
            obtain ⟨bq, hbx⟩ : ∃ b, b = W105.heap.size := ⟨_, rfl⟩
            rw [← hbx]
            obtain ⟨W106, hW⟩ : ∃ W, W = W105.alloc (.cells #[.slice aq q.length dq] 26) := ⟨_, rfl⟩
            rw [← hW]
            have K : Below W105.heap.size W105 W106 := by rw [hW]; exact (by repeat (first | exact bR | refine bO ?_ | refine bA ?_ | refine bS ?_ | refine bD ?_ | refine bN ?_))
            have Bq := Lib.hid (show W106.heap[bq]? = some (.cells #[.slice aq q.length dq] 26 (0, 0)) by rw [hW, hbx]; exact heap_alloc_new _ _)
            clear hW hbx
            replace T := T.trans (K.mono T.size)
            replace Br := box_below Br K
            replace Bo := box_below Bo K
            replace Bk := box_below Bk K
            replace Xp := Xp.below K
            replace Xq := Xq.below K
            clear K Sr
            have Sr := Rr.below (TV.trans (T.mono s0))
            obtain ⟨Brc0, Brc1, Brc2, Brc3, Brc4, Brc5, Brc6, Brc7, Brl⟩ := cb8 Br
            obtain ⟨Boc0, Boc1, Boc2, Bol⟩ := cb3 Bo
            obtain ⟨Bkc0, Bkc1, Bkc2, Bkl⟩ := cb3 Bk
            obtain ⟨Bqc0, Bql⟩ := cb1 Bq
            have Bkf0 := frozen_blk (j := 0) Bk.out
            have Bkf1 := frozen_blk (j := 1) Bk.out
            have Bkf2 := frozen_blk (j := 2) Bk.out
            have Bof0 := frozen_blk (j := 0) Bo.out
            have Bof1 := frozen_blk (j := 1) Bo.out
            have Bof2 := frozen_blk (j := 2) Bo.out
            go_wp2_with fail
            clear Brc0 Brc1 Brc2 Brc3 Brc4 Brc5 Brc6 Brc7 Boc0 Boc1 Boc2 Bkc0 Bkc1 Bkc2 Bqc0 Brl Bol Bkl Bql
            clear Bkf0 Bkf1 Bkf2
            clear Bof0 Bof1 Bof2
            refine (calls_ov (SameRegion_eq ((Xq.below (by repeat (first | exact bR | refine bO ?_ | refine bA ?_ | refine bS ?_ | refine bD ?_ | refine bN ?_))).r3) ((Xp.below (by repeat (first | exact bR | refine bO ?_ | refine bA ?_ | refine bS ?_ | refine bD ?_ | refine bN ?_))).r3) (by omega) (by omega) (show Hid (decide (q = p) = true) from HE))).mono ?_
            rintro e w' ⟨rfl, x, rfl⟩
            obtain ⟨W107, hW⟩ : ∃ W107, W107 = ov W106 x := ⟨_, rfl⟩
            rw [← hW]
            have K : Below W106.heap.size W106 W107 := by rw [hW]; exact (by repeat (first | exact bR | refine bO ?_ | refine bA ?_ | refine bS ?_ | refine bD ?_ | refine bN ?_))
            clear hW
            replace T := T.trans (K.mono T.size)
            replace Br := box_below Br K
            replace Bo := box_below Bo K
            replace Bk := box_below Bk K
            replace Bq := box_below Bq K
            replace Xp := Xp.below K
            replace Xq := Xq.below K
            clear K Sr
            have Sr := Rr.below (TV.trans (T.mono s0))
            obtain ⟨Brc0, Brc1, Brc2, Brc3, Brc4, Brc5, Brc6, Brc7, Brl⟩ := cb8 Br
            obtain ⟨Boc0, Boc1, Boc2, Bol⟩ := cb3 Bo
            obtain ⟨Bkc0, Bkc1, Bkc2, Bkl⟩ := cb3 Bk
            obtain ⟨Bqc0, Bql⟩ := cb1 Bq
            have Bkf0 := frozen_blk (j := 0) Bk.out
            have Bkf1 := frozen_blk (j := 1) Bk.out
            have Bkf2 := frozen_blk (j := 2) Bk.out
            have Bof0 := frozen_blk (j := 0) Bo.out
            have Bof1 := frozen_blk (j := 1) Bo.out
            have Bof2 := frozen_blk (j := 2) Bo.out
            go_wp2
            skip
            go_roundw
            case rel => exact ⟨p, k, true, ap, dp, Lib.hid (set3_2 Bk.out), Xp.sb (by decide) ⟨_, _, Bk.out⟩, T.setCell hbkV _, hkn, Kp, HS⟩
            case measure =>
              rw [keptMeas_at (n := n) (Lib.hid (set3_2 Bk.out))]
              rw [M9.out]
              simp <;> omega
          · have HE : Hid (decide (q = p) = false) := Lib.hid (by simp [hqp])
            have HS : Hid (keptV (runS r n (k + 1) q false) = ((out, kn, ks), ok)) := Lib.hid (by rw [← hr0, runL_next hlt hq hqp]; rfl)
            clear hq hr0 hqp
            obtain ⟨Brc0, Brc1, Brc2, Brc3, Brc4, Brc5, Brc6, Brc7, Brl⟩ := cb8 Br
            obtain ⟨Boc0, Boc1, Boc2, Bol⟩ := cb3 Bo
            obtain ⟨Bkc0, Bkc1, Bkc2, Bkl⟩ := cb3 Bk
            have Bkf0 := frozen_blk (j := 0) Bk.out
            have Bkf1 := frozen_blk (j := 1) Bk.out
            have Bkf2 := frozen_blk (j := 2) Bk.out
            have Bof0 := frozen_blk (j := 0) Bo.out
            have Bof1 := frozen_blk (j := 1) Bo.out
            have Bof2 := frozen_blk (j := 2) Bo.out
            go_wp2_with fail
            clear Brc0 Brc1 Brc2 Brc3 Brc4 Brc5 Brc6 Brc7 Boc0 Boc1 Boc2 Bkc0 Bkc1 Bkc2 Brl Bol Bkl
            clear Bkf0 Bkf1 Bkf2
            clear Bof0 Bof1 Bof2
            refine (impl_keep_eq (Sr.below (by repeat (first | exact bR | refine bO ?_ | refine bA ?_ | refine bS ?_ | refine bD ?_ | refine bN ?_))) hsr ((Xp.below (by repeat (first | exact bR | refine bO ?_ | refine bA ?_ | refine bS ?_ | refine bD ?_ | refine bN ?_))).r3) KP.out Kp.out HQM).mono ?_
            rintro e W108 ⟨aq, dq, rfl, Xq, hb⟩
            have K : Below wr.heap.size wr W108 := Below.trans (by repeat (first | exact bR | refine bO ?_ | refine bA ?_ | refine bS ?_ | refine bD ?_ | refine bN ?_)) (hb.mono (by first | exact Nat.le_refl _ | simp [ov_size]))
            replace Xq := Xq.weak (B' := V.heap.size) (by have := T.size; (try simp [ov_size]); omega)
            clear hb
            replace T := T.trans (K.mono T.size)
            replace Br := box_below Br K
            replace Bo := box_below Bo K
            replace Bk := box_below Bk K
            replace Xp := Xp.below K
            clear K Sr
            have Sr := Rr.below (TV.trans (T.mono s0))
            obtain ⟨Brc0, Brc1, Brc2, Brc3, Brc4, Brc5, Brc6, Brc7, Brl⟩ := cb8 Br
            obtain ⟨Boc0, Boc1, Boc2, Bol⟩ := cb3 Bo
            obtain ⟨Bkc0, Bkc1, Bkc2, Bkl⟩ := cb3 Bk
            have Bkf0 := frozen_blk (j := 0) Bk.out
            have Bkf1 := frozen_blk (j := 1) Bk.out
            have Bkf2 := frozen_blk (j := 2) Bk.out
            have Bof0 := frozen_blk (j := 0) Bo.out
            have Bof1 := frozen_blk (j := 1) Bo.out
            have Bof2 := frozen_blk (j := 2) Bo.out
            go_wp2_with fail
            clear Brc0 Brc1 Brc2 Brc3 Brc4 Brc5 Brc6 Brc7 Boc0 Boc1 Boc2 Bkc0 Bkc1 Bkc2 Brl Bol Bkl
            clear Bkf0 Bkf1 Bkf2
            clear Bof0 Bof1 Bof2
            obtain ⟨bq, hbx⟩ : ∃ b, b = W108.heap.size := ⟨_, rfl⟩
            rw [← hbx]
            obtain ⟨W109, hW⟩ : ∃ W, W = W108.alloc (.cells #[.slice aq q.length dq] 26) := ⟨_, rfl⟩
            rw [← hW]
            have K : Below W108.heap.size W108 W109 := by rw [hW]; exact (by repeat (first | exact bR | refine bO ?_ | refine bA ?_ | refine bS ?_ | refine bD ?_ | refine bN ?_))
            have Bq := Lib.hid (show W109.heap[bq]? = some (.cells #[.slice aq q.length dq] 26 (0, 0)) by rw [hW, hbx]; exact heap_alloc_new _ _)
            clear hW hbx
            replace T := T.trans (K.mono T.size)
            replace Br := box_below Br K
            replace Bo := box_below Bo K
            replace Bk := box_below Bk K
            replace Xp := Xp.below K
            replace Xq := Xq.below K
            clear K Sr
            have Sr := Rr.below (TV.trans (T.mono s0))
            obtain ⟨Brc0, Brc1, Brc2, Brc3, Brc4, Brc5, Brc6, Brc7, Brl⟩ := cb8 Br
            obtain ⟨Boc0, Boc1, Boc2, Bol⟩ := cb3 Bo
            obtain ⟨Bkc0, Bkc1, Bkc2, Bkl⟩ := cb3 Bk
            obtain ⟨Bqc0, Bql⟩ := cb1 Bq
            have Bkf0 := frozen_blk (j := 0) Bk.out
            have Bkf1 := frozen_blk (j := 1) Bk.out
            have Bkf2 := frozen_blk (j := 2) Bk.out
            have Bof0 := frozen_blk (j := 0) Bo.out
            have Bof1 := frozen_blk (j := 1) Bo.out
            have Bof2 := frozen_blk (j := 2) Bo.out
            go_wp2_with fail
            clear Brc0 Brc1 Brc2 Brc3 Brc4 Brc5 Brc6 Brc7 Boc0 Boc1 Boc2 Bkc0 Bkc1 Bkc2 Bqc0 Brl Bol Bkl Bql
            clear Bkf0 Bkf1 Bkf2
            clear Bof0 Bof1 Bof2
            refine (calls_ov (SameRegion_eq ((Xq.below (by repeat (first | exact bR | refine bO ?_ | refine bA ?_ | refine bS ?_ | refine bD ?_ | refine bN ?_))).r3) ((Xp.below (by repeat (first | exact bR | refine bO ?_ | refine bA ?_ | refine bS ?_ | refine bD ?_ | refine bN ?_))).r3) (by omega) (by omega) (show Hid (decide (q = p) = false) from HE))).mono ?_
            rintro e w' ⟨rfl, x, rfl⟩
            obtain ⟨W110, hW⟩ : ∃ W110, W110 = ov W109 x := ⟨_, rfl⟩
            rw [← hW]
            have K : Below W109.heap.size W109 W110 := by rw [hW]; exact (by repeat (first | exact bR | refine bO ?_ | refine bA ?_ | refine bS ?_ | refine bD ?_ | refine bN ?_))
            clear hW
            replace T := T.trans (K.mono T.size)
            replace Br := box_below Br K
            replace Bo := box_below Bo K
            replace Bk := box_below Bk K
            replace Bq := box_below Bq K
            replace Xp := Xp.below K
            replace Xq := Xq.below K
            clear K Sr
            have Sr := Rr.below (TV.trans (T.mono s0))
            obtain ⟨Brc0, Brc1, Brc2, Brc3, Brc4, Brc5, Brc6, Brc7, Brl⟩ := cb8 Br
            obtain ⟨Boc0, Boc1, Boc2, Bol⟩ := cb3 Bo
            obtain ⟨Bkc0, Bkc1, Bkc2, Bkl⟩ := cb3 Bk
            obtain ⟨Bqc0, Bql⟩ := cb1 Bq
            have Bkf0 := frozen_blk (j := 0) Bk.out
            have Bkf1 := frozen_blk (j := 1) Bk.out
            have Bkf2 := frozen_blk (j := 2) Bk.out
            have Bof0 := frozen_blk (j := 0) Bo.out
            have Bof1 := frozen_blk (j := 1) Bo.out
            have Bof2 := frozen_blk (j := 2) Bo.out
            go_wp2
            go_roundw
            case rel => exact ⟨q, k + 1, false, aq, dq, Lib.hid (set3_1 (set3_0 Bk.out)), (Xq.sb (by decide) ⟨_, _, Bk.out⟩).sb (by decide) ⟨_, _, set3_0 Bk.out⟩, (T.setCell hbkV _).setCell hbkV _, by omega, kq, HS⟩
            case measure =>
              rw [show (k : Int) + 1 = ((k + 1 : Nat) : Int) by omega]
              rw [keptMeas_at (k := k + 1) (n := n) (Lib.hid (set3_1 (set3_0 Bk.out)))]
              rw [M9.out]
              simp <;> omega

end Go.Proofs.YtabmfaamadbefaaGreat