/- Contract of LossOf of the program. Condition: rows are short. -/
import Derived.Test.YtabmfaamadbefaaGreatQl
import Derived.Test.YtabmfaamadbefaaGreatQb
import Derived.Test.YtabmfaamadbefaaGreatQe
import Derived.Test.YtabmfaamadbefaaGreatGt
import Derived.Test.YtabmfaamadbefaaGreatQz
import Derived.Test.YtabmfaamadbefaaGreatHsp
import Derived.Test.YtabmfaamadbefaaGreatQf
set_option linter.unusedVariables false
set_option linter.unusedSimpArgs false
set_option linter.unusedSectionVars false
namespace Go.Proofs.YtabmfaamadbefaaGreat
open Go.RowKit
theorem set2_01 {w : World} {b : Nat} {T : TypeId} {a0 a1 u v : Value} (h : w.heap[b]? = some (.cells #[a0, a1] T (0, 0))) : ((w.setCell ⟨b, 0, none⟩ u).setCell ⟨b, 1, none⟩ v).heap[b]? = some (.cells #[u, v] T (0, 0)) := by
  have h1 : (w.setCell ⟨b, 0, none⟩ u).heap[b]? = some (.cells #[u, a1] T (0, 0)) := by
    have := heap_setCell_same w b 0 _ T u h
    simpa using this
  have := heap_setCell_same _ b 1 _ T v h1
  simpa using this
theorem impl_RatioCmp_l {n d m e : Int} {w : World} {c : Int} (h : Hid (ratioCmp n d m e = c)) (hn : -9223372036854775808 ≤ n ∧ n ≤ 9223372036854775807) (hd : -9223372036854775808 ≤ d ∧ d ≤ 9223372036854775807) (hm : -9223372036854775808 ≤ m ∧ m ≤ 9223372036854775807) (he : -9223372036854775808 ≤ e ∧ e ≤ 9223372036854775807) :
    Calls Tryz.prog 35 #[.agg #[.int .i64 n, .int .i64 d], .agg #[.int .i64 m, .int .i64 e]] w fun e' w' => e' = .returned (.int .i64 c) ∧ Below w.heap.size w w' := by
  obtain rfl := h.out; exact impl_RatioCmp_any n d m e w hn hd hm he
theorem two_max (h : H3) : (h.a < -h.a ∧ max h.a (-h.a) = -h.a) ∨ (¬ h.a < -h.a ∧ max h.a (-h.a) = h.a) := by omega
theorem two_max' (h : H3) : (h.b < -h.b ∧ max h.b (-h.b) = -h.b) ∨ (¬ h.b < -h.b ∧ max h.b (-h.b) = h.b) := by omega
set_option maxRecDepth 100000 in
set_option maxHeartbeats 8000000 in
theorem impl_LossOf_eq {r : RoomV} {Ar1 Ar2 Ar3 : Option Addr} {cr1 cr2 cr3 : Nat} {n1 : Int} {w : World} {l1 l2 : Int} {ok : Bool} (Rr : RM w r Ar1 Ar2 cr2 Ar3 cr3) (hsr : r.Short) (hr : Hid (lossR r n1 = ((l1, l2), ok))) :
    Calls Tryz.prog 24 #[.agg #[.slice Ar1 r.m.length cr1, .int .i64 r.q, .int .i64 r.bx, .int .i64 r.by_, .int .i64 r.lo, .int .i64 r.hi, .slice Ar2 r.ns.length cr2, .slice Ar3 r.ls.length cr3], .int .i64 n1] w (fun e' w' => e' = .returned (.tuple #[.agg #[.int .i64 l1, .int .i64 l2], .bool ok]) ∧ Below w.heap.size w w') := by
  have hk := hr.out
  unfold lossR at hk
  clear hr
  obtain ⟨⟨⟨p, kn, ks⟩, t1⟩, h1⟩ : ∃ x, runR r n1 = x := ⟨_, rfl⟩
  rw [h1] at hk
  have H1 := Lib.hid h1
  have kp := Lib.hid (runR_reg h1)
  have lp := (region_good kp.out).2
  obtain ⟨⟨q, t2⟩, h2⟩ : ∃ x, keepR r p = x := ⟨_, rfl⟩
  obtain ⟨t3, h3⟩ : ∃ t, decide (p.length = 0) = t := ⟨_, rfl⟩
  obtain ⟨t4, h4⟩ : ∃ t, decide (q.length = 0) = t := ⟨_, rfl⟩
  have H2 := Lib.hid h2
  have H3 := Lib.hid h3
  have H4 := Lib.hid h4
  unfold lossOf at hk
  simp only at hk
  rw [h2] at hk
  simp only at hk
  cases t1 with
  | false =>
    rw [if_neg (by simp)] at hk
    simp only [Prod.mk.injEq] at hk
    obtain ⟨⟨rfl, rfl⟩, rfl⟩ := hk
    clear h1 h2 h3 h4
    go_enter Tryz.func24, Tryz.ntmps24
    go_wp2_with fail
    obtain ⟨V, hV⟩ : ∃ V, ((w.alloc (.cells #[.slice Ar1 r.m.length cr1, .int .i64 r.q, .int .i64 r.bx, .int .i64 r.by_, .int .i64 r.lo, .int .i64 r.hi, .slice Ar2 r.ns.length cr2, .slice Ar3 r.ls.length cr3] 28)).alloc (.cells #[.int .i64 0, .int .i64 0] 54)) = V := ⟨_, rfl⟩
    have TV : Below w.heap.size w V := by rw [← hV]; exact (by repeat (first | exact bR | refine bO ?_ | refine bA ?_ | refine bS ?_ | refine bD ?_ | refine bN ?_))
    have X0 : V.heap[w.heap.size]? = some (.cells #[.slice Ar1 r.m.length cr1, .int .i64 r.q, .int .i64 r.bx, .int .i64 r.by_, .int .i64 r.lo, .int .i64 r.hi, .slice Ar2 r.ns.length cr2, .slice Ar3 r.ls.length cr3] 28 (0, 0)) := by rw [← hV]; exact ((heap_old_at (by first | (simp; done) | (simp <;> omega))).trans (heap_new_at (by first | (simp; done) | (simp <;> omega)) rfl))
    have X1 : V.heap[w.heap.size + 1]? = some (.cells #[.int .i64 0, .int .i64 0] 54 (0, 0)) := by rw [← hV]; exact (heap_new_at (by first | (simp; done) | (simp <;> omega)) rfl)
    rw [hV]
    clear hV
    have hbb1 : w.heap.size ≤ w.heap.size + 1 := by omega
    generalize w.heap.size + 1 = ba1 at X1 hbb1 ⊢
    obtain ⟨W0, hW⟩ : ∃ W0, W0 = V := ⟨_, rfl⟩
    rw [← hW]
    have T : Below V.heap.size V W0 := by rw [hW]; exact Below.refl _ _
    clear hW
    have Br := box_below (Lib.hid X0) T
    clear X0
    have Bo := box_below (Lib.hid X1) T
    clear X1
    have s0 : w.heap.size ≤ V.heap.size := TV.size
    obtain ⟨ba0, hba0⟩ : ∃ b, w.heap.size = b := ⟨_, rfl⟩
    rw [hba0] at Br
    try rw [hba0]
    have Sr := Rr.below (TV.trans (T.mono s0))
    refine (impl_RunRounds_eq (Sr.below (by repeat (first | exact bR | refine bO ?_ | refine bA ?_ | refine bS ?_ | refine bD ?_ | refine bN ?_))) hsr H1).mono ?_
    rintro e W1 ⟨ak, dk, rfl, Xk, hb⟩
    have K : Below W0.heap.size W0 W1 := Below.trans (by repeat (first | exact bR | refine bO ?_ | refine bA ?_ | refine bS ?_ | refine bD ?_ | refine bN ?_)) (hb.mono (by first | exact Nat.le_refl _ | simp [ov_size]))
    replace Xk := Xk.weak (B' := V.heap.size) (by have := T.size; (try simp [ov_size]); omega)
    clear hb
    replace T := T.trans (K.mono T.size)
    replace Br := box_below Br K
    replace Bo := box_below Bo K
    clear K Sr
    have Sr := Rr.below (TV.trans (T.mono s0))
    obtain ⟨Brc0, Brc1, Brc2, Brc3, Brc4, Brc5, Brc6, Brc7, Brl⟩ := cb8 Br
    obtain ⟨Boc0, Boc1, Bol⟩ := cb2 Bo
    have Bof0 := frozen_blk (j := 0) Bo.out
    have Bof1 := frozen_blk (j := 1) Bo.out
    go_wp2
    refine bodyPost_ret (v := .tuple #[.agg #[.int .i64 0, .int .i64 0], .bool false]) (by simp [results, Tryz.results24, go_sem, Boc0, Boc1, Bol]) rfl ⟨rfl, ?_⟩
    exact (by repeat (first | exact TV.trans (T.mono s0) | refine bO ?_ | refine bA ?_ | refine bS ?_ | refine bD ?_ | refine bN ?_))
  | true =>
    have hroom := runR_room h1
    have KP := Lib.hid (roomOk_parts hroom)
    have HM : Hid (keepM r p = (q, t2)) := Lib.hid (by rw [← keepR_true hroom kp.out]; exact h2)
    by_cases hgood : t2 = true ∧ t3 = false ∧ t4 = false
    case neg =>
      have hbad : ¬ (true = true ∧ t2 = true ∧ p ≠ [] ∧ q ≠ []) := fun e => hgood ⟨e.2.1, by rw [← h3]; simp [e.2.2.1], by rw [← h4]; simp [e.2.2.2]⟩
      rw [if_neg hbad] at hk
      simp only [Prod.mk.injEq] at hk
      obtain ⟨⟨rfl, rfl⟩, rfl⟩ := hk
      have hc : t2 = false ∨ (t2 = true ∧ t3 = true) ∨ (t2 = true ∧ t3 = false ∧ t4 = true) := by cases t2 <;> cases t3 <;> cases t4 <;> simp at hgood ⊢
      clear h1 h2 h3 h4 hbad hgood hroom
      rcases hc with rfl | ⟨rfl, rfl⟩ | ⟨rfl, rfl, rfl⟩
      · skip
        go_enter Tryz.func24, Tryz.ntmps24
        go_wp2_with fail
        obtain ⟨V, hV⟩ : ∃ V, ((w.alloc (.cells #[.slice Ar1 r.m.length cr1, .int .i64 r.q, .int .i64 r.bx, .int .i64 r.by_, .int .i64 r.lo, .int .i64 r.hi, .slice Ar2 r.ns.length cr2, .slice Ar3 r.ls.length cr3] 28)).alloc (.cells #[.int .i64 0, .int .i64 0] 54)) = V := ⟨_, rfl⟩
        have TV : Below w.heap.size w V := by rw [← hV]; exact (by repeat (first | exact bR | refine bO ?_ | refine bA ?_ | refine bS ?_ | refine bD ?_ | refine bN ?_))
        have X0 : V.heap[w.heap.size]? = some (.cells #[.slice Ar1 r.m.length cr1, .int .i64 r.q, .int .i64 r.bx, .int .i64 r.by_, .int .i64 r.lo, .int .i64 r.hi, .slice Ar2 r.ns.length cr2, .slice Ar3 r.ls.length cr3] 28 (0, 0)) := by rw [← hV]; exact ((heap_old_at (by first | (simp; done) | (simp <;> omega))).trans (heap_new_at (by first | (simp; done) | (simp <;> omega)) rfl))
        have X1 : V.heap[w.heap.size + 1]? = some (.cells #[.int .i64 0, .int .i64 0] 54 (0, 0)) := by rw [← hV]; exact (heap_new_at (by first | (simp; done) | (simp <;> omega)) rfl)
        rw [hV]
        clear hV
        have hbb1 : w.heap.size ≤ w.heap.size + 1 := by omega
        generalize w.heap.size + 1 = ba1 at X1 hbb1 ⊢
        obtain ⟨W0, hW⟩ : ∃ W0, W0 = V := ⟨_, rfl⟩
        rw [← hW]
        have T : Below V.heap.size V W0 := by rw [hW]; exact Below.refl _ _
        clear hW
        have Br := box_below (Lib.hid X0) T
        clear X0
        have Bo := box_below (Lib.hid X1) T
        clear X1
        have s0 : w.heap.size ≤ V.heap.size := TV.size
        obtain ⟨ba0, hba0⟩ : ∃ b, w.heap.size = b := ⟨_, rfl⟩
        rw [hba0] at Br
        try rw [hba0]
        have Sr := Rr.below (TV.trans (T.mono s0))
        refine (impl_RunRounds_eq (Sr.below (by repeat (first | exact bR | refine bO ?_ | refine bA ?_ | refine bS ?_ | refine bD ?_ | refine bN ?_))) hsr H1).mono ?_
        rintro e W2 ⟨ak, dk, rfl, Xk, hb⟩
        have K : Below W0.heap.size W0 W2 := Below.trans (by repeat (first | exact bR | refine bO ?_ | refine bA ?_ | refine bS ?_ | refine bD ?_ | refine bN ?_)) (hb.mono (by first | exact Nat.le_refl _ | simp [ov_size]))
        replace Xk := Xk.weak (B' := V.heap.size) (by have := T.size; (try simp [ov_size]); omega)
        clear hb
        replace T := T.trans (K.mono T.size)
        replace Br := box_below Br K
        replace Bo := box_below Bo K
        clear K Sr
        have Sr := Rr.below (TV.trans (T.mono s0))
        obtain ⟨Brc0, Brc1, Brc2, Brc3, Brc4, Brc5, Brc6, Brc7, Brl⟩ := cb8 Br
        obtain ⟨Boc0, Boc1, Bol⟩ := cb2 Bo
        have Bof0 := frozen_blk (j := 0) Bo.out
        have Bof1 := frozen_blk (j := 1) Bo.out
        go_wp2_with fail
        clear Brc0 Brc1 Brc2 Brc3 Brc4 Brc5 Brc6 Brc7 Boc0 Boc1 Brl Bol
        clear Bof0 Bof1
        obtain ⟨bk, hbx⟩ : ∃ b, b = W2.heap.size := ⟨_, rfl⟩
        rw [← hbx]
        obtain ⟨W3, hW⟩ : ∃ W, W = W2.alloc (.cells #[.slice ak p.length dk, .int .i64 kn, .bool ks] 47) := ⟨_, rfl⟩
        rw [← hW]
        have K : Below W2.heap.size W2 W3 := by rw [hW]; exact (by repeat (first | exact bR | refine bO ?_ | refine bA ?_ | refine bS ?_ | refine bD ?_ | refine bN ?_))
        have Bk := Lib.hid (show W3.heap[bk]? = some (.cells #[.slice ak p.length dk, .int .i64 kn, .bool ks] 47 (0, 0)) by rw [hW, hbx]; exact heap_alloc_new _ _)
        clear hW hbx
        replace T := T.trans (K.mono T.size)
        replace Br := box_below Br K
        replace Bo := box_below Bo K
        replace Xk := Xk.below K
        clear K Sr
        have Sr := Rr.below (TV.trans (T.mono s0))
        obtain ⟨Brc0, Brc1, Brc2, Brc3, Brc4, Brc5, Brc6, Brc7, Brl⟩ := cb8 Br
        obtain ⟨Boc0, Boc1, Bol⟩ := cb2 Bo
        obtain ⟨Bkc0, Bkc1, Bkc2, Bkl⟩ := cb3 Bk
        have Bof0 := frozen_blk (j := 0) Bo.out
        have Bof1 := frozen_blk (j := 1) Bo.out
        go_wp2_with fail
        clear Brc0 Brc1 Brc2 Brc3 Brc4 Brc5 Brc6 Brc7 Boc0 Boc1 Bkc0 Bkc1 Bkc2 Brl Bol Bkl
        clear Bof0 Bof1
        refine (impl_keep_eq (Sr.below (by repeat (first | exact bR | refine bO ?_ | refine bA ?_ | refine bS ?_ | refine bD ?_ | refine bN ?_))) hsr ((Xk.below (by repeat (first | exact bR | refine bO ?_ | refine bA ?_ | refine bS ?_ | refine bD ?_ | refine bN ?_))).r3) KP.out kp.out HM).mono ?_
        rintro e W4 ⟨an, dn, rfl, Xn, hb⟩
        have K : Below W3.heap.size W3 W4 := Below.trans (by repeat (first | exact bR | refine bO ?_ | refine bA ?_ | refine bS ?_ | refine bD ?_ | refine bN ?_)) (hb.mono (by first | exact Nat.le_refl _ | simp [ov_size]))
        replace Xn := Xn.weak (B' := V.heap.size) (by have := T.size; (try simp [ov_size]); omega)
        clear hb
        replace T := T.trans (K.mono T.size)
        replace Br := box_below Br K
        replace Bo := box_below Bo K
        replace Bk := box_below Bk K
        replace Xk := Xk.below K
        clear K Sr
        have Sr := Rr.below (TV.trans (T.mono s0))
        obtain ⟨Brc0, Brc1, Brc2, Brc3, Brc4, Brc5, Brc6, Brc7, Brl⟩ := cb8 Br
        obtain ⟨Boc0, Boc1, Bol⟩ := cb2 Bo
        obtain ⟨Bkc0, Bkc1, Bkc2, Bkl⟩ := cb3 Bk
        have Bof0 := frozen_blk (j := 0) Bo.out
        have Bof1 := frozen_blk (j := 1) Bo.out
        go_wp2
        refine bodyPost_ret (v := .tuple #[.agg #[.int .i64 0, .int .i64 0], .bool false]) (by simp [results, Tryz.results24, go_sem, Boc0, Boc1, Bol]) rfl ⟨rfl, ?_⟩
        exact (by repeat (first | exact TV.trans (T.mono s0) | refine bO ?_ | refine bA ?_ | refine bS ?_ | refine bD ?_ | refine bN ?_))
      · skip
        go_enter Tryz.func24, Tryz.ntmps24
        go_wp2_with fail
        obtain ⟨V, hV⟩ : ∃ V, ((w.alloc (.cells #[.slice Ar1 r.m.length cr1, .int .i64 r.q, .int .i64 r.bx, .int .i64 r.by_, .int .i64 r.lo, .int .i64 r.hi, .slice Ar2 r.ns.length cr2, .slice Ar3 r.ls.length cr3] 28)).alloc (.cells #[.int .i64 0, .int .i64 0] 54)) = V := ⟨_, rfl⟩
        have TV : Below w.heap.size w V := by rw [← hV]; exact (by repeat (first | exact bR | refine bO ?_ | refine bA ?_ | refine bS ?_ | refine bD ?_ | refine bN ?_))
        have X0 : V.heap[w.heap.size]? = some (.cells #[.slice Ar1 r.m.length cr1, .int .i64 r.q, .int .i64 r.bx, .int .i64 r.by_, .int .i64 r.lo, .int .i64 r.hi, .slice Ar2 r.ns.length cr2, .slice Ar3 r.ls.length cr3] 28 (0, 0)) := by rw [← hV]; exact ((heap_old_at (by first | (simp; done) | (simp <;> omega))).trans (heap_new_at (by first | (simp; done) | (simp <;> omega)) rfl))
        have X1 : V.heap[w.heap.size + 1]? = some (.cells #[.int .i64 0, .int .i64 0] 54 (0, 0)) := by rw [← hV]; exact (heap_new_at (by first | (simp; done) | (simp <;> omega)) rfl)
        rw [hV]
        clear hV
        have hbb1 : w.heap.size ≤ w.heap.size + 1 := by omega
        generalize w.heap.size + 1 = ba1 at X1 hbb1 ⊢
        obtain ⟨W0, hW⟩ : ∃ W0, W0 = V := ⟨_, rfl⟩
        rw [← hW]
        have T : Below V.heap.size V W0 := by rw [hW]; exact Below.refl _ _
        clear hW
        have Br := box_below (Lib.hid X0) T
        clear X0
        have Bo := box_below (Lib.hid X1) T
        clear X1
        have s0 : w.heap.size ≤ V.heap.size := TV.size
        obtain ⟨ba0, hba0⟩ : ∃ b, w.heap.size = b := ⟨_, rfl⟩
        rw [hba0] at Br
        try rw [hba0]
        have Sr := Rr.below (TV.trans (T.mono s0))
        refine (impl_RunRounds_eq (Sr.below (by repeat (first | exact bR | refine bO ?_ | refine bA ?_ | refine bS ?_ | refine bD ?_ | refine bN ?_))) hsr H1).mono ?_
        rintro e W5 ⟨ak, dk, rfl, Xk, hb⟩
        have K : Below W0.heap.size W0 W5 := Below.trans (by repeat (first | exact bR | refine bO ?_ | refine bA ?_ | refine bS ?_ | refine bD ?_ | refine bN ?_)) (hb.mono (by first | exact Nat.le_refl _ | simp [ov_size]))
        replace Xk := Xk.weak (B' := V.heap.size) (by have := T.size; (try simp [ov_size]); omega)
        clear hb
        replace T := T.trans (K.mono T.size)
        replace Br := box_below Br K
        replace Bo := box_below Bo K
        clear K Sr
        have Sr := Rr.below (TV.trans (T.mono s0))
        obtain ⟨Brc0, Brc1, Brc2, Brc3, Brc4, Brc5, Brc6, Brc7, Brl⟩ := cb8 Br
        obtain ⟨Boc0, Boc1, Bol⟩ := cb2 Bo
        have Bof0 := frozen_blk (j := 0) Bo.out
        have Bof1 := frozen_blk (j := 1) Bo.out
        go_wp2_with fail
        clear Brc0 Brc1 Brc2 Brc3 Brc4 Brc5 Brc6 Brc7 Boc0 Boc1 Brl Bol
        clear Bof0 Bof1
        obtain ⟨bk, hbx⟩ : ∃ b, b = W5.heap.size := ⟨_, rfl⟩
        rw [← hbx]
        obtain ⟨W6, hW⟩ : ∃ W, W = W5.alloc (.cells #[.slice ak p.length dk, .int .i64 kn, .bool ks] 47) := ⟨_, rfl⟩
        rw [← hW]
        have K : Below W5.heap.size W5 W6 := by rw [hW]; exact (by repeat (first | exact bR | refine bO ?_ | refine bA ?_ | refine bS ?_ | refine bD ?_ | refine bN ?_))
        have Bk := Lib.hid (show W6.heap[bk]? = some (.cells #[.slice ak p.length dk, .int .i64 kn, .bool ks] 47 (0, 0)) by rw [hW, hbx]; exact heap_alloc_new _ _)
        clear hW hbx
        replace T := T.trans (K.mono T.size)
        replace Br := box_below Br K
        replace Bo := box_below Bo K
        replace Xk := Xk.below K
        clear K Sr
        have Sr := Rr.below (TV.trans (T.mono s0))
        obtain ⟨Brc0, Brc1, Brc2, Brc3, Brc4, Brc5, Brc6, Brc7, Brl⟩ := cb8 Br
        obtain ⟨Boc0, Boc1, Bol⟩ := cb2 Bo
        obtain ⟨Bkc0, Bkc1, Bkc2, Bkl⟩ := cb3 Bk
        have Bof0 := frozen_blk (j := 0) Bo.out
        have Bof1 := frozen_blk (j := 1) Bo.out
        go_wp2_with fail
        clear Brc0 Brc1 Brc2 Brc3 Brc4 Brc5 Brc6 Brc7 Boc0 Boc1 Bkc0 Bkc1 Bkc2 Brl Bol Bkl
        clear Bof0 Bof1
        refine (impl_keep_eq (Sr.below (by repeat (first | exact bR | refine bO ?_ | refine bA ?_ | refine bS ?_ | refine bD ?_ | refine bN ?_))) hsr ((Xk.below (by repeat (first | exact bR | refine bO ?_ | refine bA ?_ | refine bS ?_ | refine bD ?_ | refine bN ?_))).r3) KP.out kp.out HM).mono ?_
        rintro e W7 ⟨an, dn, rfl, Xn, hb⟩
        have K : Below W6.heap.size W6 W7 := Below.trans (by repeat (first | exact bR | refine bO ?_ | refine bA ?_ | refine bS ?_ | refine bD ?_ | refine bN ?_)) (hb.mono (by first | exact Nat.le_refl _ | simp [ov_size]))
        replace Xn := Xn.weak (B' := V.heap.size) (by have := T.size; (try simp [ov_size]); omega)
        clear hb
        replace T := T.trans (K.mono T.size)
        replace Br := box_below Br K
        replace Bo := box_below Bo K
        replace Bk := box_below Bk K
        replace Xk := Xk.below K
        clear K Sr
        have Sr := Rr.below (TV.trans (T.mono s0))
        obtain ⟨Brc0, Brc1, Brc2, Brc3, Brc4, Brc5, Brc6, Brc7, Brl⟩ := cb8 Br
        obtain ⟨Boc0, Boc1, Bol⟩ := cb2 Bo
        obtain ⟨Bkc0, Bkc1, Bkc2, Bkl⟩ := cb3 Bk
        have Bof0 := frozen_blk (j := 0) Bo.out
        have Bof1 := frozen_blk (j := 1) Bo.out
        go_wp2_with fail
        clear Brc0 Brc1 Brc2 Brc3 Brc4 Brc5 Brc6 Brc7 Boc0 Boc1 Bkc0 Bkc1 Bkc2 Brl Bol Bkl
        clear Bof0 Bof1
        obtain ⟨bn, hbx⟩ : ∃ b, b = W7.heap.size := ⟨_, rfl⟩
        rw [← hbx]
        obtain ⟨W8, hW⟩ : ∃ W, W = W7.alloc (.cells #[.slice an q.length dn] 26) := ⟨_, rfl⟩
        rw [← hW]
        have K : Below W7.heap.size W7 W8 := by rw [hW]; exact (by repeat (first | exact bR | refine bO ?_ | refine bA ?_ | refine bS ?_ | refine bD ?_ | refine bN ?_))
        have Bn := Lib.hid (show W8.heap[bn]? = some (.cells #[.slice an q.length dn] 26 (0, 0)) by rw [hW, hbx]; exact heap_alloc_new _ _)
        clear hW hbx
        replace T := T.trans (K.mono T.size)
        replace Br := box_below Br K
        replace Bo := box_below Bo K
        replace Bk := box_below Bk K
        replace Xk := Xk.below K
        replace Xn := Xn.below K
        clear K Sr
        have Sr := Rr.below (TV.trans (T.mono s0))
        obtain ⟨Brc0, Brc1, Brc2, Brc3, Brc4, Brc5, Brc6, Brc7, Brl⟩ := cb8 Br
        obtain ⟨Boc0, Boc1, Bol⟩ := cb2 Bo
        obtain ⟨Bkc0, Bkc1, Bkc2, Bkl⟩ := cb3 Bk
        obtain ⟨Bnc0, Bnl⟩ := cb1 Bn
        have Bof0 := frozen_blk (j := 0) Bo.out
        have Bof1 := frozen_blk (j := 1) Bo.out
        go_wp2_with fail
        clear Brc0 Brc1 Brc2 Brc3 Brc4 Brc5 Brc6 Brc7 Boc0 Boc1 Bkc0 Bkc1 Bkc2 Bnc0 Brl Bol Bkl Bnl
        clear Bof0 Bof1
        refine (calls_ov (IsVoid_eq H3)).mono ?_
        rintro e w' ⟨rfl, x, rfl⟩
        obtain ⟨W9, hW⟩ : ∃ W9, W9 = ov W8 x := ⟨_, rfl⟩
        rw [← hW]
        have K : Below W8.heap.size W8 W9 := by rw [hW]; exact (by repeat (first | exact bR | refine bO ?_ | refine bA ?_ | refine bS ?_ | refine bD ?_ | refine bN ?_))
        clear hW
        replace T := T.trans (K.mono T.size)
        replace Br := box_below Br K
        replace Bo := box_below Bo K
        replace Bk := box_below Bk K
        replace Bn := box_below Bn K
        replace Xk := Xk.below K
        replace Xn := Xn.below K
        clear K Sr
        have Sr := Rr.below (TV.trans (T.mono s0))
        obtain ⟨Brc0, Brc1, Brc2, Brc3, Brc4, Brc5, Brc6, Brc7, Brl⟩ := cb8 Br
        obtain ⟨Boc0, Boc1, Bol⟩ := cb2 Bo
        obtain ⟨Bkc0, Bkc1, Bkc2, Bkl⟩ := cb3 Bk
        obtain ⟨Bnc0, Bnl⟩ := cb1 Bn
        have Bof0 := frozen_blk (j := 0) Bo.out
        have Bof1 := frozen_blk (j := 1) Bo.out
        go_wp2
        refine bodyPost_ret (v := .tuple #[.agg #[.int .i64 0, .int .i64 0], .bool false]) (by simp [results, Tryz.results24, go_sem, Boc0, Boc1, Bol]) rfl ⟨rfl, ?_⟩
        exact (by repeat (first | exact TV.trans (T.mono s0) | refine bO ?_ | refine bA ?_ | refine bS ?_ | refine bD ?_ | refine bN ?_))
      · skip
        go_enter Tryz.func24, Tryz.ntmps24
        go_wp2_with fail
        obtain ⟨V, hV⟩ : ∃ V, ((w.alloc (.cells #[.slice Ar1 r.m.length cr1, .int .i64 r.q, .int .i64 r.bx, .int .i64 r.by_, .int .i64 r.lo, .int .i64 r.hi, .slice Ar2 r.ns.length cr2, .slice Ar3 r.ls.length cr3] 28)).alloc (.cells #[.int .i64 0, .int .i64 0] 54)) = V := ⟨_, rfl⟩
        have TV : Below w.heap.size w V := by rw [← hV]; exact (by repeat (first | exact bR | refine bO ?_ | refine bA ?_ | refine bS ?_ | refine bD ?_ | refine bN ?_))
        have X0 : V.heap[w.heap.size]? = some (.cells #[.slice Ar1 r.m.length cr1, .int .i64 r.q, .int .i64 r.bx, .int .i64 r.by_, .int .i64 r.lo, .int .i64 r.hi, .slice Ar2 r.ns.length cr2, .slice Ar3 r.ls.length cr3] 28 (0, 0)) := by rw [← hV]; exact ((heap_old_at (by first | (simp; done) | (simp <;> omega))).trans (heap_new_at (by first | (simp; done) | (simp <;> omega)) rfl))
        have X1 : V.heap[w.heap.size + 1]? = some (.cells #[.int .i64 0, .int .i64 0] 54 (0, 0)) := by rw [← hV]; exact (heap_new_at (by first | (simp; done) | (simp <;> omega)) rfl)
        rw [hV]
        clear hV
        have hbb1 : w.heap.size ≤ w.heap.size + 1 := by omega
        generalize w.heap.size + 1 = ba1 at X1 hbb1 ⊢
        obtain ⟨W0, hW⟩ : ∃ W0, W0 = V := ⟨_, rfl⟩
        rw [← hW]
        have T : Below V.heap.size V W0 := by rw [hW]; exact Below.refl _ _
        clear hW
        have Br := box_below (Lib.hid X0) T
        clear X0
        have Bo := box_below (Lib.hid X1) T
        clear X1
        have s0 : w.heap.size ≤ V.heap.size := TV.size
        obtain ⟨ba0, hba0⟩ : ∃ b, w.heap.size = b := ⟨_, rfl⟩
        rw [hba0] at Br
        try rw [hba0]
        have Sr := Rr.below (TV.trans (T.mono s0))
        refine (impl_RunRounds_eq (Sr.below (by repeat (first | exact bR | refine bO ?_ | refine bA ?_ | refine bS ?_ | refine bD ?_ | refine bN ?_))) hsr H1).mono ?_
        rintro e W10 ⟨ak, dk, rfl, Xk, hb⟩
        have K : Below W0.heap.size W0 W10 := Below.trans (by repeat (first | exact bR | refine bO ?_ | refine bA ?_ | refine bS ?_ | refine bD ?_ | refine bN ?_)) (hb.mono (by first | exact Nat.le_refl _ | simp [ov_size]))
        replace Xk := Xk.weak (B' := V.heap.size) (by have := T.size; (try simp [ov_size]); omega)
        clear hb
        replace T := T.trans (K.mono T.size)
        replace Br := box_below Br K
        replace Bo := box_below Bo K
        clear K Sr
        have Sr := Rr.below (TV.trans (T.mono s0))
        obtain ⟨Brc0, Brc1, Brc2, Brc3, Brc4, Brc5, Brc6, Brc7, Brl⟩ := cb8 Br
        obtain ⟨Boc0, Boc1, Bol⟩ := cb2 Bo
        have Bof0 := frozen_blk (j := 0) Bo.out
        have Bof1 := frozen_blk (j := 1) Bo.out
        go_wp2_with fail
        clear Brc0 Brc1 Brc2 Brc3 Brc4 Brc5 Brc6 Brc7 Boc0 Boc1 Brl Bol
        clear Bof0 Bof1
        obtain ⟨bk, hbx⟩ : ∃ b, b = W10.heap.size := ⟨_, rfl⟩
        rw [← hbx]
        obtain ⟨W11, hW⟩ : ∃ W, W = W10.alloc (.cells #[.slice ak p.length dk, .int .i64 kn, .bool ks] 47) := ⟨_, rfl⟩
        rw [← hW]
        have K : Below W10.heap.size W10 W11 := by rw [hW]; exact (by repeat (first | exact bR | refine bO ?_ | refine bA ?_ | refine bS ?_ | refine bD ?_ | refine bN ?_))
        have Bk := Lib.hid (show W11.heap[bk]? = some (.cells #[.slice ak p.length dk, .int .i64 kn, .bool ks] 47 (0, 0)) by rw [hW, hbx]; exact heap_alloc_new _ _)
        clear hW hbx
        replace T := T.trans (K.mono T.size)
        replace Br := box_below Br K
        replace Bo := box_below Bo K
        replace Xk := Xk.below K
        clear K Sr
        have Sr := Rr.below (TV.trans (T.mono s0))
        obtain ⟨Brc0, Brc1, Brc2, Brc3, Brc4, Brc5, Brc6, Brc7, Brl⟩ := cb8 Br
        obtain ⟨Boc0, Boc1, Bol⟩ := cb2 Bo
        obtain ⟨Bkc0, Bkc1, Bkc2, Bkl⟩ := cb3 Bk
        have Bof0 := frozen_blk (j := 0) Bo.out
        have Bof1 := frozen_blk (j := 1) Bo.out
        go_wp2_with fail
        clear Brc0 Brc1 Brc2 Brc3 Brc4 Brc5 Brc6 Brc7 Boc0 Boc1 Bkc0 Bkc1 Bkc2 Brl Bol Bkl
        clear Bof0 Bof1
        refine (impl_keep_eq (Sr.below (by repeat (first | exact bR | refine bO ?_ | refine bA ?_ | refine bS ?_ | refine bD ?_ | refine bN ?_))) hsr ((Xk.below (by repeat (first | exact bR | refine bO ?_ | refine bA ?_ | refine bS ?_ | refine bD ?_ | refine bN ?_))).r3) KP.out kp.out HM).mono ?_
        rintro e W12 ⟨an, dn, rfl, Xn, hb⟩
        have K : Below W11.heap.size W11 W12 := Below.trans (by repeat (first | exact bR | refine bO ?_ | refine bA ?_ | refine bS ?_ | refine bD ?_ | refine bN ?_)) (hb.mono (by first | exact Nat.le_refl _ | simp [ov_size]))
        replace Xn := Xn.weak (B' := V.heap.size) (by have := T.size; (try simp [ov_size]); omega)
        clear hb
        replace T := T.trans (K.mono T.size)
        replace Br := box_below Br K
        replace Bo := box_below Bo K
        replace Bk := box_below Bk K
        replace Xk := Xk.below K
        clear K Sr
        have Sr := Rr.below (TV.trans (T.mono s0))
        obtain ⟨Brc0, Brc1, Brc2, Brc3, Brc4, Brc5, Brc6, Brc7, Brl⟩ := cb8 Br
        obtain ⟨Boc0, Boc1, Bol⟩ := cb2 Bo
        obtain ⟨Bkc0, Bkc1, Bkc2, Bkl⟩ := cb3 Bk
        have Bof0 := frozen_blk (j := 0) Bo.out
        have Bof1 := frozen_blk (j := 1) Bo.out
        go_wp2_with fail
        clear Brc0 Brc1 Brc2 Brc3 Brc4 Brc5 Brc6 Brc7 Boc0 Boc1 Bkc0 Bkc1 Bkc2 Brl Bol Bkl
        clear Bof0 Bof1
        obtain ⟨bn, hbx⟩ : ∃ b, b = W12.heap.size := ⟨_, rfl⟩
        rw [← hbx]
        obtain ⟨W13, hW⟩ : ∃ W, W = W12.alloc (.cells #[.slice an q.length dn] 26) := ⟨_, rfl⟩
        rw [← hW]
        have K : Below W12.heap.size W12 W13 := by rw [hW]; exact (by repeat (first | exact bR | refine bO ?_ | refine bA ?_ | refine bS ?_ | refine bD ?_ | refine bN ?_))
        have Bn := Lib.hid (show W13.heap[bn]? = some (.cells #[.slice an q.length dn] 26 (0, 0)) by rw [hW, hbx]; exact heap_alloc_new _ _)
        clear hW hbx
        replace T := T.trans (K.mono T.size)
        replace Br := box_below Br K
        replace Bo := box_below Bo K
        replace Bk := box_below Bk K
        replace Xk := Xk.below K
        replace Xn := Xn.below K
        clear K Sr
        have Sr := Rr.below (TV.trans (T.mono s0))
        obtain ⟨Brc0, Brc1, Brc2, Brc3, Brc4, Brc5, Brc6, Brc7, Brl⟩ := cb8 Br
        obtain ⟨Boc0, Boc1, Bol⟩ := cb2 Bo
        obtain ⟨Bkc0, Bkc1, Bkc2, Bkl⟩ := cb3 Bk
        obtain ⟨Bnc0, Bnl⟩ := cb1 Bn
        have Bof0 := frozen_blk (j := 0) Bo.out
        have Bof1 := frozen_blk (j := 1) Bo.out
        go_wp2_with fail
        clear Brc0 Brc1 Brc2 Brc3 Brc4 Brc5 Brc6 Brc7 Boc0 Boc1 Bkc0 Bkc1 Bkc2 Bnc0 Brl Bol Bkl Bnl
        clear Bof0 Bof1
        refine (calls_ov (IsVoid_eq H3)).mono ?_
        rintro e w' ⟨rfl, x, rfl⟩
        obtain ⟨W14, hW⟩ : ∃ W14, W14 = ov W13 x := ⟨_, rfl⟩
        rw [← hW]
        have K : Below W13.heap.size W13 W14 := by rw [hW]; exact (by repeat (first | exact bR | refine bO ?_ | refine bA ?_ | refine bS ?_ | refine bD ?_ | refine bN ?_))
        clear hW
        replace T := T.trans (K.mono T.size)
        replace Br := box_below Br K
        replace Bo := box_below Bo K
        replace Bk := box_below Bk K
        replace Bn := box_below Bn K
        replace Xk := Xk.below K
        replace Xn := Xn.below K
        clear K Sr
        have Sr := Rr.below (TV.trans (T.mono s0))
        obtain ⟨Brc0, Brc1, Brc2, Brc3, Brc4, Brc5, Brc6, Brc7, Brl⟩ := cb8 Br
        obtain ⟨Boc0, Boc1, Bol⟩ := cb2 Bo
        obtain ⟨Bkc0, Bkc1, Bkc2, Bkl⟩ := cb3 Bk
        obtain ⟨Bnc0, Bnl⟩ := cb1 Bn
        have Bof0 := frozen_blk (j := 0) Bo.out
        have Bof1 := frozen_blk (j := 1) Bo.out
        go_wp2_with fail
        clear Brc0 Brc1 Brc2 Brc3 Brc4 Brc5 Brc6 Brc7 Boc0 Boc1 Bkc0 Bkc1 Bkc2 Bnc0 Brl Bol Bkl Bnl
        clear Bof0 Bof1
        refine (calls_ov (IsVoid_eq H4)).mono ?_
        rintro e w' ⟨rfl, x, rfl⟩
        obtain ⟨W15, hW⟩ : ∃ W15, W15 = ov W14 x := ⟨_, rfl⟩
        rw [← hW]
        have K : Below W14.heap.size W14 W15 := by rw [hW]; exact (by repeat (first | exact bR | refine bO ?_ | refine bA ?_ | refine bS ?_ | refine bD ?_ | refine bN ?_))
        clear hW
        replace T := T.trans (K.mono T.size)
        replace Br := box_below Br K
        replace Bo := box_below Bo K
        replace Bk := box_below Bk K
        replace Bn := box_below Bn K
        replace Xk := Xk.below K
        replace Xn := Xn.below K
        clear K Sr
        have Sr := Rr.below (TV.trans (T.mono s0))
        obtain ⟨Brc0, Brc1, Brc2, Brc3, Brc4, Brc5, Brc6, Brc7, Brl⟩ := cb8 Br
        obtain ⟨Boc0, Boc1, Bol⟩ := cb2 Bo
        obtain ⟨Bkc0, Bkc1, Bkc2, Bkl⟩ := cb3 Bk
        obtain ⟨Bnc0, Bnl⟩ := cb1 Bn
        have Bof0 := frozen_blk (j := 0) Bo.out
        have Bof1 := frozen_blk (j := 1) Bo.out
        go_wp2
        refine bodyPost_ret (v := .tuple #[.agg #[.int .i64 0, .int .i64 0], .bool false]) (by simp [results, Tryz.results24, go_sem, Boc0, Boc1, Bol]) rfl ⟨rfl, ?_⟩
        exact (by repeat (first | exact TV.trans (T.mono s0) | refine bO ?_ | refine bA ?_ | refine bS ?_ | refine bD ?_ | refine bN ?_))
    obtain ⟨rfl, rfl, rfl⟩ := hgood
    have hp : p ≠ [] := by intro e; rw [e] at h3; simp at h3
    have hq : q ≠ [] := by intro e; rw [e] at h4; simp at h4
    rw [if_pos ⟨rfl, rfl, hp, hq⟩, Prod.mk.injEq] at hk
    obtain ⟨hb, rfl⟩ := hk
    have HB := Lib.hid hb
    have HPN := Lib.hid hp
    have kq := Lib.hid (keepR_reg h2)
    have GQ := Lib.hid (region_good kq.out).1
    have lq := (region_good kq.out).2
    have HE := Lib.hid (keepR_edges h2 hp hq)
    have HBO := Lib.hid (best_ok kp.out hp q GQ.out)
    have hq0 : 0 < q.length := List.length_pos_iff.2 hq
    have HZ := Lib.hid (show ratOf 0 1 = (0, 1) from ratOf_one (by omega))
    clear h1 h2 h3 h4 hb hp hq hroom
    go_enter Tryz.func24, Tryz.ntmps24
    go_wp2_with fail
    obtain ⟨V, hV⟩ : ∃ V, ((w.alloc (.cells #[.slice Ar1 r.m.length cr1, .int .i64 r.q, .int .i64 r.bx, .int .i64 r.by_, .int .i64 r.lo, .int .i64 r.hi, .slice Ar2 r.ns.length cr2, .slice Ar3 r.ls.length cr3] 28)).alloc (.cells #[.int .i64 0, .int .i64 0] 54)) = V := ⟨_, rfl⟩
    have TV : Below w.heap.size w V := by rw [← hV]; exact (by repeat (first | exact bR | refine bO ?_ | refine bA ?_ | refine bS ?_ | refine bD ?_ | refine bN ?_))
    have X0 : V.heap[w.heap.size]? = some (.cells #[.slice Ar1 r.m.length cr1, .int .i64 r.q, .int .i64 r.bx, .int .i64 r.by_, .int .i64 r.lo, .int .i64 r.hi, .slice Ar2 r.ns.length cr2, .slice Ar3 r.ls.length cr3] 28 (0, 0)) := by rw [← hV]; exact ((heap_old_at (by first | (simp; done) | (simp <;> omega))).trans (heap_new_at (by first | (simp; done) | (simp <;> omega)) rfl))
    have X1 : V.heap[w.heap.size + 1]? = some (.cells #[.int .i64 0, .int .i64 0] 54 (0, 0)) := by rw [← hV]; exact (heap_new_at (by first | (simp; done) | (simp <;> omega)) rfl)
    rw [hV]
    clear hV
    have hbb1 : w.heap.size ≤ w.heap.size + 1 := by omega
    generalize w.heap.size + 1 = ba1 at X1 hbb1 ⊢
    obtain ⟨W0, hW⟩ : ∃ W0, W0 = V := ⟨_, rfl⟩
    rw [← hW]
    have T : Below V.heap.size V W0 := by rw [hW]; exact Below.refl _ _
    clear hW
    have Br := box_below (Lib.hid X0) T
    clear X0
    have Bo := box_below (Lib.hid X1) T
    clear X1
    have s0 : w.heap.size ≤ V.heap.size := TV.size
    obtain ⟨ba0, hba0⟩ : ∃ b, w.heap.size = b := ⟨_, rfl⟩
    rw [hba0] at Br
    try rw [hba0]
    have Sr := Rr.below (TV.trans (T.mono s0))
    refine (impl_RunRounds_eq (Sr.below (by repeat (first | exact bR | refine bO ?_ | refine bA ?_ | refine bS ?_ | refine bD ?_ | refine bN ?_))) hsr H1).mono ?_
    rintro e W16 ⟨ak, dk, rfl, Xk, hb⟩
    have K : Below W0.heap.size W0 W16 := Below.trans (by repeat (first | exact bR | refine bO ?_ | refine bA ?_ | refine bS ?_ | refine bD ?_ | refine bN ?_)) (hb.mono (by first | exact Nat.le_refl _ | simp [ov_size]))
    replace Xk := Xk.weak (B' := V.heap.size) (by have := T.size; (try simp [ov_size]); omega)
    clear hb
    replace T := T.trans (K.mono T.size)
    replace Br := box_below Br K
    replace Bo := box_below Bo K
    clear K Sr
    have Sr := Rr.below (TV.trans (T.mono s0))
    obtain ⟨Brc0, Brc1, Brc2, Brc3, Brc4, Brc5, Brc6, Brc7, Brl⟩ := cb8 Br
    obtain ⟨Boc0, Boc1, Bol⟩ := cb2 Bo
    have Bof0 := frozen_blk (j := 0) Bo.out
    have Bof1 := frozen_blk (j := 1) Bo.out
    go_wp2_with fail
    clear Brc0 Brc1 Brc2 Brc3 Brc4 Brc5 Brc6 Brc7 Boc0 Boc1 Brl Bol
    clear Bof0 Bof1
    obtain ⟨bk, hbx⟩ : ∃ b, b = W16.heap.size := ⟨_, rfl⟩
    rw [← hbx]
    obtain ⟨W17, hW⟩ : ∃ W, W = W16.alloc (.cells #[.slice ak p.length dk, .int .i64 kn, .bool ks] 47) := ⟨_, rfl⟩
    rw [← hW]
    have K : Below W16.heap.size W16 W17 := by rw [hW]; exact (by repeat (first | exact bR | refine bO ?_ | refine bA ?_ | refine bS ?_ | refine bD ?_ | refine bN ?_))
    have Bk := Lib.hid (show W17.heap[bk]? = some (.cells #[.slice ak p.length dk, .int .i64 kn, .bool ks] 47 (0, 0)) by rw [hW, hbx]; exact heap_alloc_new _ _)
    clear hW hbx
    replace T := T.trans (K.mono T.size)
    replace Br := box_below Br K
    replace Bo := box_below Bo K
    replace Xk := Xk.below K
    clear K Sr
    have Sr := Rr.below (TV.trans (T.mono s0))
    obtain ⟨Brc0, Brc1, Brc2, Brc3, Brc4, Brc5, Brc6, Brc7, Brl⟩ := cb8 Br
    obtain ⟨Boc0, Boc1, Bol⟩ := cb2 Bo
    obtain ⟨Bkc0, Bkc1, Bkc2, Bkl⟩ := cb3 Bk
    have Bof0 := frozen_blk (j := 0) Bo.out
    have Bof1 := frozen_blk (j := 1) Bo.out
    go_wp2_with fail
    clear Brc0 Brc1 Brc2 Brc3 Brc4 Brc5 Brc6 Brc7 Boc0 Boc1 Bkc0 Bkc1 Bkc2 Brl Bol Bkl
    clear Bof0 Bof1
    refine (impl_keep_eq (Sr.below (by repeat (first | exact bR | refine bO ?_ | refine bA ?_ | refine bS ?_ | refine bD ?_ | refine bN ?_))) hsr ((Xk.below (by repeat (first | exact bR | refine bO ?_ | refine bA ?_ | refine bS ?_ | refine bD ?_ | refine bN ?_))).r3) KP.out kp.out HM).mono ?_
    rintro e W18 ⟨an, dn, rfl, Xn, hb⟩
    have K : Below W17.heap.size W17 W18 := Below.trans (by repeat (first | exact bR | refine bO ?_ | refine bA ?_ | refine bS ?_ | refine bD ?_ | refine bN ?_)) (hb.mono (by first | exact Nat.le_refl _ | simp [ov_size]))
    replace Xn := Xn.weak (B' := V.heap.size) (by have := T.size; (try simp [ov_size]); omega)
    clear hb
    replace T := T.trans (K.mono T.size)
    replace Br := box_below Br K
    replace Bo := box_below Bo K
    replace Bk := box_below Bk K
    replace Xk := Xk.below K
    clear K Sr
    have Sr := Rr.below (TV.trans (T.mono s0))
    obtain ⟨Brc0, Brc1, Brc2, Brc3, Brc4, Brc5, Brc6, Brc7, Brl⟩ := cb8 Br
    obtain ⟨Boc0, Boc1, Bol⟩ := cb2 Bo
    obtain ⟨Bkc0, Bkc1, Bkc2, Bkl⟩ := cb3 Bk
    have Bof0 := frozen_blk (j := 0) Bo.out
    have Bof1 := frozen_blk (j := 1) Bo.out
    go_wp2_with fail
    clear Brc0 Brc1 Brc2 Brc3 Brc4 Brc5 Brc6 Brc7 Boc0 Boc1 Bkc0 Bkc1 Bkc2 Brl Bol Bkl
    clear Bof0 Bof1
    obtain ⟨bn, hbx⟩ : ∃ b, b = W18.heap.size := ⟨_, rfl⟩
    rw [← hbx]
    obtain ⟨W19, hW⟩ : ∃ W, W = W18.alloc (.cells #[.slice an q.length dn] 26) := ⟨_, rfl⟩
    rw [← hW]
    have K : Below W18.heap.size W18 W19 := by rw [hW]; exact (by repeat (first | exact bR | refine bO ?_ | refine bA ?_ | refine bS ?_ | refine bD ?_ | refine bN ?_))
    have Bn := Lib.hid (show W19.heap[bn]? = some (.cells #[.slice an q.length dn] 26 (0, 0)) by rw [hW, hbx]; exact heap_alloc_new _ _)
    clear hW hbx
    replace T := T.trans (K.mono T.size)
    replace Br := box_below Br K
    replace Bo := box_below Bo K
    replace Bk := box_below Bk K
    replace Xk := Xk.below K
    replace Xn := Xn.below K
    clear K Sr
    have Sr := Rr.below (TV.trans (T.mono s0))
    obtain ⟨Brc0, Brc1, Brc2, Brc3, Brc4, Brc5, Brc6, Brc7, Brl⟩ := cb8 Br
    obtain ⟨Boc0, Boc1, Bol⟩ := cb2 Bo
    obtain ⟨Bkc0, Bkc1, Bkc2, Bkl⟩ := cb3 Bk
    obtain ⟨Bnc0, Bnl⟩ := cb1 Bn
    have Bof0 := frozen_blk (j := 0) Bo.out
    have Bof1 := frozen_blk (j := 1) Bo.out
    go_wp2_with fail
    clear Brc0 Brc1 Brc2 Brc3 Brc4 Brc5 Brc6 Brc7 Boc0 Boc1 Bkc0 Bkc1 Bkc2 Bnc0 Brl Bol Bkl Bnl
    clear Bof0 Bof1
    refine (calls_ov (IsVoid_eq H3)).mono ?_
    rintro e w' ⟨rfl, x, rfl⟩
    obtain ⟨W20, hW⟩ : ∃ W20, W20 = ov W19 x := ⟨_, rfl⟩
    rw [← hW]
    have K : Below W19.heap.size W19 W20 := by rw [hW]; exact (by repeat (first | exact bR | refine bO ?_ | refine bA ?_ | refine bS ?_ | refine bD ?_ | refine bN ?_))
    clear hW
    replace T := T.trans (K.mono T.size)
    replace Br := box_below Br K
    replace Bo := box_below Bo K
    replace Bk := box_below Bk K
    replace Bn := box_below Bn K
    replace Xk := Xk.below K
    replace Xn := Xn.below K
    clear K Sr
    have Sr := Rr.below (TV.trans (T.mono s0))
    obtain ⟨Brc0, Brc1, Brc2, Brc3, Brc4, Brc5, Brc6, Brc7, Brl⟩ := cb8 Br
    obtain ⟨Boc0, Boc1, Bol⟩ := cb2 Bo
    obtain ⟨Bkc0, Bkc1, Bkc2, Bkl⟩ := cb3 Bk
    obtain ⟨Bnc0, Bnl⟩ := cb1 Bn
    have Bof0 := frozen_blk (j := 0) Bo.out
    have Bof1 := frozen_blk (j := 1) Bo.out
    go_wp2_with fail
    clear Brc0 Brc1 Brc2 Brc3 Brc4 Brc5 Brc6 Brc7 Boc0 Boc1 Bkc0 Bkc1 Bkc2 Bnc0 Brl Bol Bkl Bnl
    clear Bof0 Bof1
    refine (calls_ov (IsVoid_eq H4)).mono ?_
    rintro e w' ⟨rfl, x, rfl⟩
    obtain ⟨W21, hW⟩ : ∃ W21, W21 = ov W20 x := ⟨_, rfl⟩
    rw [← hW]
    have K : Below W20.heap.size W20 W21 := by rw [hW]; exact (by repeat (first | exact bR | refine bO ?_ | refine bA ?_ | refine bS ?_ | refine bD ?_ | refine bN ?_))
    clear hW
    replace T := T.trans (K.mono T.size)
    replace Br := box_below Br K
    replace Bo := box_below Bo K
    replace Bk := box_below Bk K
    replace Bn := box_below Bn K
    replace Xk := Xk.below K
    replace Xn := Xn.below K
    clear K Sr
    have Sr := Rr.below (TV.trans (T.mono s0))
    obtain ⟨Brc0, Brc1, Brc2, Brc3, Brc4, Brc5, Brc6, Brc7, Brl⟩ := cb8 Br
    obtain ⟨Boc0, Boc1, Bol⟩ := cb2 Bo
    obtain ⟨Bkc0, Bkc1, Bkc2, Bkl⟩ := cb3 Bk
    obtain ⟨Bnc0, Bnl⟩ := cb1 Bn
    have Bof0 := frozen_blk (j := 0) Bo.out
    have Bof1 := frozen_blk (j := 1) Bo.out
    go_wp2_with fail
    clear Brc0 Brc1 Brc2 Brc3 Brc4 Brc5 Brc6 Brc7 Boc0 Boc1 Bkc0 Bkc1 Bkc2 Bnc0 Brl Bol Bkl Bnl
    clear Bof0 Bof1
    obtain ⟨Wm, hW⟩ : ∃ W, W = W21.alloc (.cells #[.int .i64 0, .int .i64 0] 54) := ⟨_, rfl⟩
    rw [← hW]
    have Km : Below W21.heap.size W21 Wm := by rw [hW]; exact (by repeat (first | exact bR | refine bO ?_ | refine bA ?_ | refine bS ?_ | refine bD ?_ | refine bN ?_))
    have Bm := Lib.hid (show Wm.heap[W21.heap.size]? = some (.cells #[.int .i64 0, .int .i64 0] 54 (0, 0)) by rw [hW]; exact heap_alloc_new _ _)
    clear hW
    obtain ⟨bm, hbm⟩ : ∃ b, b = W21.heap.size := ⟨_, rfl⟩
    rw [← hbm] at Bm
    try rw [← hbm]
    have hbz : W21.heap.size ≤ bm := by omega
    clear hbm
    go_loopw [46] (fun i wr => ∃ (k : Nat) (m1 m2 : Int), k ≤ q.length ∧ i = .int .i64 k ∧ Hid (wr.heap[bm]? = some (.cells #[.int .i64 m1, .int .i64 m2] 54 (0, 0))) ∧ Below W21.heap.size W21 wr ∧ Hid ((k = 0 ∧ m1 = 0 ∧ m2 = 0) ∨ (0 < k ∧ (m1, m2) = bestL p (q.take k)))) (fun i _ => q.length - (intOf i).toNat)
    case atStart => exact ⟨0, 0, 0, Nat.zero_le _, rfl, Bm, Km, Lib.hid (.inl ⟨rfl, rfl, rfl⟩)⟩
    case round =>
      clear Bm Km
      obtain ⟨k, m1, m2, hkq, rfl, Bm, K, HI⟩ := hrel
      have KZ := K
      have k0s := K.size
      replace T := T.trans (K.mono T.size)
      replace Br := box_below Br K
      replace Bo := box_below Bo K
      replace Bk := box_below Bk K
      replace Bn := box_below Bn K
      replace Xk := Xk.below K
      replace Xn := Xn.below K
      clear K Sr
      have Sr := Rr.below (TV.trans (T.mono s0))
      by_cases hlt : k < q.length
      case neg =>
        obtain rfl : k = q.length := by omega
        have hm : (m1, m2) = (l1, l2) := by
          have := HI.out
          rw [List.take_length, HB.out] at this
          rcases this with h | h
          · omega
          · exact h.2
        simp only [Prod.mk.injEq] at hm
        obtain ⟨rfl, rfl⟩ := hm
        have HOK : Hid (ratioOk m1 m2 = true) := Lib.hid (by have := HBO.out; rw [HB.out] at this; exact this)
        have qb := ratioOk_bd HOK.out
        obtain ⟨Brc0, Brc1, Brc2, Brc3, Brc4, Brc5, Brc6, Brc7, Brl⟩ := cb8 Br
        obtain ⟨Boc0, Boc1, Bol⟩ := cb2 Bo
        obtain ⟨Bkc0, Bkc1, Bkc2, Bkl⟩ := cb3 Bk
        obtain ⟨Bnc0, Bnl⟩ := cb1 Bn
        obtain ⟨Bmc0, Bmc1, Bml⟩ := cb2 Bm
        have Bmf0 := frozen_blk (j := 0) Bm.out
        have Bmf1 := frozen_blk (j := 1) Bm.out
        have Bof0 := frozen_blk (j := 0) Bo.out
        have Bof1 := frozen_blk (j := 1) Bo.out
        go_wp2_with fail
        go_region_with (first | (go_at_call 64; (first | (with_reducible refine (calls_ov2 (impl_RatioOk_eq HOK.out (by omega) (by omega))).mono ?_) | refine (calls_ov (impl_RatioOk_eq HOK.out (by omega) (by omega))).mono ?_); rintro e w' ⟨rfl, x, rfl⟩))
        all_goals
          go_wp2
          refine bodyPost_ret (v := .tuple #[.agg #[.int .i64 m1, .int .i64 m2], .bool true]) (by simp [results, Tryz.results24, go_sem, Boc0, Boc1, Bol]) rfl ⟨rfl, ?_⟩
          exact (by repeat (first | exact TV.trans (T.mono s0) | refine bO ?_ | refine bA ?_ | refine bS ?_ | refine bD ?_ | refine bN ?_))
      obtain ⟨g0, rfl, hg0, z0, z1, z2⟩ := (Xn.r3).at_ hlt
      have kh := GQ.out _ (List.getElem_mem hlt)
      have hge := Lib.hid (HE.out _ (List.getElem_mem hlt))
      have HTK := Lib.hid (List.take_succ_eq_append_getElem hlt)
      obtain ⟨hh, hhe⟩ : ∃ hh, hh = q[k] := ⟨_, rfl⟩
      rw [← hhe] at z0 z1 z2 kh hge HTK
      clear hhe
      have LB := loss_bd kp.out HPN.out kh
      have hlok := loss_ok kp.out HPN.out kh
      obtain ⟨⟨s1, s2⟩, hs⟩ : ∃ x, supN hh.a hh.b p = x := ⟨_, rfl⟩
      obtain ⟨⟨x1, x2⟩, hx⟩ : ∃ x, lossF p hh = x := ⟨_, rfl⟩
      have HSUP := Lib.hid hs
      have HX := Lib.hid hx
      obtain ⟨bq, bs, bc, bn, bd⟩ := LB
      rw [hs] at bq bs bc bd
      rw [hx] at hlok
      have HLOK := Lib.hid hlok
      have xb := ratioOk_bd hlok
      have HRO : Hid (ratOf (s1 - hh.c * s2) (s2 * nrm1 hh) = (x1, x2)) := Lib.hid (by rw [← hx]; unfold lossF; rw [hs])
      have ba := kh.ba
      have bb := kh.bb
      have hcc := kh.bc
      simp only at bq bs bc bd xb
      clear hs hx hlok
      have HNEW : Hid (((x1, x2) = bestL p (q.take (k + 1)) ∧ k = 0) ∨ (0 < k ∧ (if 0 < ratioCmp x1 x2 m1 m2 then (x1, x2) else (m1, m2)) = bestL p (q.take (k + 1)))) := Lib.hid (by
        have hI := HI.out
        rcases hI with ⟨rfl, _, _⟩ | ⟨hk0, hI⟩
        · left
          refine ⟨?_, rfl⟩
          rw [HTK.out, List.take_zero, List.nil_append, best_first kp.out HPN.out kh hge.out, HX.out]
        · right
          refine ⟨hk0, ?_⟩
          have bo := best_ok kp.out HPN.out (q.take k) (fun g hg => GQ.out g (List.mem_of_mem_take hg))
          rw [HTK.out, bestL_snoc, ← hI, HX.out]
          rw [← hI] at bo
          rw [ratioCmp_swap bo HLOK.out]
          simp only
          by_cases h0 : 0 ≤ ratioCmp m1 m2 x1 x2
          · rw [if_pos h0, if_neg (by omega)]
          · rw [if_neg h0, if_pos (by omega)])
      rcases two_max hh with ⟨ca, ea⟩ | ⟨ca, ea⟩
      all_goals rcases two_max' hh with ⟨cb, eb⟩ | ⟨cb, eb⟩
      all_goals
        have bd2 := bd
        unfold nrm1 at bd2
        rw [ea, eb] at bd2
        have EA := Lib.hid ea
        have EB := Lib.hid eb
        clear ea eb
        obtain ⟨Brc0, Brc1, Brc2, Brc3, Brc4, Brc5, Brc6, Brc7, Brl⟩ := cb8 Br
        obtain ⟨Boc0, Boc1, Bol⟩ := cb2 Bo
        obtain ⟨Bkc0, Bkc1, Bkc2, Bkl⟩ := cb3 Bk
        obtain ⟨Bnc0, Bnl⟩ := cb1 Bn
        obtain ⟨Bmc0, Bmc1, Bml⟩ := cb2 Bm
        have Bmf0 := frozen_blk (j := 0) Bm.out
        have Bmf1 := frozen_blk (j := 1) Bm.out
        have Bof0 := frozen_blk (j := 0) Bo.out
        have Bof1 := frozen_blk (j := 1) Bo.out
        go_wp2_with fail
        clear Brc0 Brc1 Brc2 Brc3 Brc4 Brc5 Brc6 Brc7 Boc0 Boc1 Bkc0 Bkc1 Bkc2 Bnc0 Bmc0 Bmc1 Brl Bol Bkl Bnl Bml
        clear Bmf0 Bmf1
        clear Bof0 Bof1
        obtain ⟨bh, hbx⟩ : ∃ b, b = wr.heap.size := ⟨_, rfl⟩
        rw [← hbx]
        obtain ⟨W222, hW⟩ : ∃ W, W = wr.alloc (.cells #[.int .i64 hh.a, .int .i64 hh.b, .int .i64 hh.c] 44) := ⟨_, rfl⟩
        rw [← hW]
        have K : Below wr.heap.size wr W222 := by rw [hW]; exact (by repeat (first | exact bR | refine bO ?_ | refine bA ?_ | refine bS ?_ | refine bD ?_ | refine bN ?_))
        have Bh := Lib.hid (show W222.heap[bh]? = some (.cells #[.int .i64 hh.a, .int .i64 hh.b, .int .i64 hh.c] 44 (0, 0)) by rw [hW, hbx]; exact heap_alloc_new _ _)
        clear hW hbx
        replace KZ := KZ.trans (K.mono KZ.size)
        replace T := T.trans (K.mono T.size)
        replace Br := box_below Br K
        replace Bo := box_below Bo K
        replace Bk := box_below Bk K
        replace Bn := box_below Bn K
        replace Bm := box_below Bm K
        replace Xk := Xk.below K
        replace Xn := Xn.below K
        clear K Sr
        have Sr := Rr.below (TV.trans (T.mono s0))
        obtain ⟨Brc0, Brc1, Brc2, Brc3, Brc4, Brc5, Brc6, Brc7, Brl⟩ := cb8 Br
        obtain ⟨Boc0, Boc1, Bol⟩ := cb2 Bo
        obtain ⟨Bkc0, Bkc1, Bkc2, Bkl⟩ := cb3 Bk
        obtain ⟨Bnc0, Bnl⟩ := cb1 Bn
        obtain ⟨Bmc0, Bmc1, Bml⟩ := cb2 Bm
        obtain ⟨Bhc0, Bhc1, Bhc2, Bhl⟩ := cb3 Bh
        have Bmf0 := frozen_blk (j := 0) Bm.out
        have Bmf1 := frozen_blk (j := 1) Bm.out
        have Bof0 := frozen_blk (j := 0) Bo.out
        have Bof1 := frozen_blk (j := 1) Bo.out
        go_wp2_with fail
        clear Brc0 Brc1 Brc2 Brc3 Brc4 Brc5 Brc6 Brc7 Boc0 Boc1 Bkc0 Bkc1 Bkc2 Bnc0 Bmc0 Bmc1 Bhc0 Bhc1 Bhc2 Brl Bol Bkl Bnl Bml Bhl
        clear Bmf0 Bmf1
        clear Bof0 Bof1
        refine (calls_ov (support_eq kp.out ba bb HPN.out ((Xk.below (by repeat (first | exact bR | refine bO ?_ | refine bA ?_ | refine bS ?_ | refine bD ?_ | refine bN ?_))).r3) HSUP)).mono ?_
        rintro e w' ⟨rfl, x, rfl⟩
        obtain ⟨W223, hW⟩ : ∃ W223, W223 = ov W222 x := ⟨_, rfl⟩
        rw [← hW]
        have K : Below W222.heap.size W222 W223 := by rw [hW]; exact (by repeat (first | exact bR | refine bO ?_ | refine bA ?_ | refine bS ?_ | refine bD ?_ | refine bN ?_))
        clear hW
        replace KZ := KZ.trans (K.mono KZ.size)
        replace T := T.trans (K.mono T.size)
        replace Br := box_below Br K
        replace Bo := box_below Bo K
        replace Bk := box_below Bk K
        replace Bn := box_below Bn K
        replace Bm := box_below Bm K
        replace Bh := box_below Bh K
        replace Xk := Xk.below K
        replace Xn := Xn.below K
        clear K Sr
        have Sr := Rr.below (TV.trans (T.mono s0))
        obtain ⟨Brc0, Brc1, Brc2, Brc3, Brc4, Brc5, Brc6, Brc7, Brl⟩ := cb8 Br
        obtain ⟨Boc0, Boc1, Bol⟩ := cb2 Bo
        obtain ⟨Bkc0, Bkc1, Bkc2, Bkl⟩ := cb3 Bk
        obtain ⟨Bnc0, Bnl⟩ := cb1 Bn
        obtain ⟨Bmc0, Bmc1, Bml⟩ := cb2 Bm
        obtain ⟨Bhc0, Bhc1, Bhc2, Bhl⟩ := cb3 Bh
        have Bmf0 := frozen_blk (j := 0) Bm.out
        have Bmf1 := frozen_blk (j := 1) Bm.out
        have Bof0 := frozen_blk (j := 0) Bo.out
        have Bof1 := frozen_blk (j := 1) Bo.out
        go_wp2_with fail
        clear Brc0 Brc1 Brc2 Brc3 Brc4 Brc5 Brc6 Brc7 Boc0 Boc1 Bkc0 Bkc1 Bkc2 Bnc0 Bmc0 Bmc1 Bhc0 Bhc1 Bhc2 Brl Bol Bkl Bnl Bml Bhl
        clear Bmf0 Bmf1
        clear Bof0 Bof1
        obtain ⟨bs, hbx⟩ : ∃ b, b = W223.heap.size := ⟨_, rfl⟩
        rw [← hbx]
        obtain ⟨W224, hW⟩ : ∃ W, W = W223.alloc (.cells #[.int .i64 s1, .int .i64 s2] 54) := ⟨_, rfl⟩
        rw [← hW]
        have K : Below W223.heap.size W223 W224 := by rw [hW]; exact (by repeat (first | exact bR | refine bO ?_ | refine bA ?_ | refine bS ?_ | refine bD ?_ | refine bN ?_))
        have Bs := Lib.hid (show W224.heap[bs]? = some (.cells #[.int .i64 s1, .int .i64 s2] 54 (0, 0)) by rw [hW, hbx]; exact heap_alloc_new _ _)
        clear hW hbx
        replace KZ := KZ.trans (K.mono KZ.size)
        replace T := T.trans (K.mono T.size)
        replace Br := box_below Br K
        replace Bo := box_below Bo K
        replace Bk := box_below Bk K
        replace Bn := box_below Bn K
        replace Bm := box_below Bm K
        replace Bh := box_below Bh K
        replace Xk := Xk.below K
        replace Xn := Xn.below K
        clear K Sr
        have Sr := Rr.below (TV.trans (T.mono s0))
        obtain ⟨Brc0, Brc1, Brc2, Brc3, Brc4, Brc5, Brc6, Brc7, Brl⟩ := cb8 Br
        obtain ⟨Boc0, Boc1, Bol⟩ := cb2 Bo
        obtain ⟨Bkc0, Bkc1, Bkc2, Bkl⟩ := cb3 Bk
        obtain ⟨Bnc0, Bnl⟩ := cb1 Bn
        obtain ⟨Bmc0, Bmc1, Bml⟩ := cb2 Bm
        obtain ⟨Bhc0, Bhc1, Bhc2, Bhl⟩ := cb3 Bh
        obtain ⟨Bsc0, Bsc1, Bsl⟩ := cb2 Bs
        have Bmf0 := frozen_blk (j := 0) Bm.out
        have Bmf1 := frozen_blk (j := 1) Bm.out
        have Bof0 := frozen_blk (j := 0) Bo.out
        have Bof1 := frozen_blk (j := 1) Bo.out
        go_wp2_with fail
        clear Brc0 Brc1 Brc2 Brc3 Brc4 Brc5 Brc6 Brc7 Boc0 Boc1 Bkc0 Bkc1 Bkc2 Bnc0 Bmc0 Bmc1 Bhc0 Bhc1 Bhc2 Bsc0 Bsc1 Brl Bol Bkl Bnl Bml Bhl Bsl
        clear Bmf0 Bmf1
        clear Bof0 Bof1
        refine (calls_ov (impl_RatioOf_eq (n := s1 - hh.c * s2) (p := x1) (q := x2) (by exact Lib.hid (by rw [← HRO.out]; unfold nrm1; rw [EA.out, EB.out])) (by omega) (by omega))).mono ?_
        rintro e w' ⟨rfl, x, rfl⟩
        obtain ⟨W225, hW⟩ : ∃ W225, W225 = ov W224 x := ⟨_, rfl⟩
        rw [← hW]
        have K : Below W224.heap.size W224 W225 := by rw [hW]; exact (by repeat (first | exact bR | refine bO ?_ | refine bA ?_ | refine bS ?_ | refine bD ?_ | refine bN ?_))
        clear hW
        replace KZ := KZ.trans (K.mono KZ.size)
        replace T := T.trans (K.mono T.size)
        replace Br := box_below Br K
        replace Bo := box_below Bo K
        replace Bk := box_below Bk K
        replace Bn := box_below Bn K
        replace Bm := box_below Bm K
        replace Bh := box_below Bh K
        replace Bs := box_below Bs K
        replace Xk := Xk.below K
        replace Xn := Xn.below K
        clear K Sr
        have Sr := Rr.below (TV.trans (T.mono s0))
        rcases HNEW.out with ⟨hN, hk0⟩ | ⟨hk0, hN⟩
        · subst hk0
          obtain ⟨Brc0, Brc1, Brc2, Brc3, Brc4, Brc5, Brc6, Brc7, Brl⟩ := cb8 Br
          obtain ⟨Boc0, Boc1, Bol⟩ := cb2 Bo
          obtain ⟨Bkc0, Bkc1, Bkc2, Bkl⟩ := cb3 Bk
          obtain ⟨Bnc0, Bnl⟩ := cb1 Bn
          obtain ⟨Bmc0, Bmc1, Bml⟩ := cb2 Bm
          obtain ⟨Bhc0, Bhc1, Bhc2, Bhl⟩ := cb3 Bh
          obtain ⟨Bsc0, Bsc1, Bsl⟩ := cb2 Bs
          have Bmf0 := frozen_blk (j := 0) Bm.out
          have Bmf1 := frozen_blk (j := 1) Bm.out
          have Bof0 := frozen_blk (j := 0) Bo.out
          have Bof1 := frozen_blk (j := 1) Bo.out
          go_wp2
          go_roundw
          case rel => exact ⟨0 + 1, x1, x2, by omega, by go_num, Lib.hid (by first | exact set2_01 Bm.out | exact alloc_blk (set2_01 Bm.out) | exact set2_01 (alloc_blk Bm.out)), (by repeat (first | exact KZ | refine bO ?_ | refine bA ?_ | refine bS ?_ | refine bD ?_ | refine bN ?_)), Lib.hid (.inr ⟨by omega, hN⟩)⟩
          case measure => simp [intOf] <;> omega
        · skip
          have hk1 : ((k : Int) == 0) = false := by simp; omega
          obtain ⟨Brc0, Brc1, Brc2, Brc3, Brc4, Brc5, Brc6, Brc7, Brl⟩ := cb8 Br
          obtain ⟨Boc0, Boc1, Bol⟩ := cb2 Bo
          obtain ⟨Bkc0, Bkc1, Bkc2, Bkl⟩ := cb3 Bk
          obtain ⟨Bnc0, Bnl⟩ := cb1 Bn
          obtain ⟨Bmc0, Bmc1, Bml⟩ := cb2 Bm
          obtain ⟨Bhc0, Bhc1, Bhc2, Bhl⟩ := cb3 Bh
          obtain ⟨Bsc0, Bsc1, Bsl⟩ := cb2 Bs
          have Bmf0 := frozen_blk (j := 0) Bm.out
          have Bmf1 := frozen_blk (j := 1) Bm.out
          have Bof0 := frozen_blk (j := 0) Bo.out
          have Bof1 := frozen_blk (j := 1) Bo.out
          go_wp2_with fail
          clear Brc0 Brc1 Brc2 Brc3 Brc4 Brc5 Brc6 Brc7 Boc0 Boc1 Bkc0 Bkc1 Bkc2 Bnc0 Bmc0 Bmc1 Bhc0 Bhc1 Bhc2 Bsc0 Bsc1 Brl Bol Bkl Bnl Bml Bhl Bsl
          clear Bmf0 Bmf1
          clear Bof0 Bof1
          obtain ⟨bx, hbx⟩ : ∃ b, b = W225.heap.size := ⟨_, rfl⟩
          rw [← hbx]
          obtain ⟨W226, hW⟩ : ∃ W, W = W225.alloc (.cells #[.int .i64 x1, .int .i64 x2] 54) := ⟨_, rfl⟩
          rw [← hW]
          have K : Below W225.heap.size W225 W226 := by rw [hW]; exact (by repeat (first | exact bR | refine bO ?_ | refine bA ?_ | refine bS ?_ | refine bD ?_ | refine bN ?_))
          have Bx := Lib.hid (show W226.heap[bx]? = some (.cells #[.int .i64 x1, .int .i64 x2] 54 (0, 0)) by rw [hW, hbx]; exact heap_alloc_new _ _)
          clear hW hbx
          replace KZ := KZ.trans (K.mono KZ.size)
          replace T := T.trans (K.mono T.size)
          replace Br := box_below Br K
          replace Bo := box_below Bo K
          replace Bk := box_below Bk K
          replace Bn := box_below Bn K
          replace Bm := box_below Bm K
          replace Bh := box_below Bh K
          replace Bs := box_below Bs K
          replace Xk := Xk.below K
          replace Xn := Xn.below K
          clear K Sr
          have Sr := Rr.below (TV.trans (T.mono s0))
          obtain ⟨Brc0, Brc1, Brc2, Brc3, Brc4, Brc5, Brc6, Brc7, Brl⟩ := cb8 Br
          obtain ⟨Boc0, Boc1, Bol⟩ := cb2 Bo
          obtain ⟨Bkc0, Bkc1, Bkc2, Bkl⟩ := cb3 Bk
          obtain ⟨Bnc0, Bnl⟩ := cb1 Bn
          obtain ⟨Bmc0, Bmc1, Bml⟩ := cb2 Bm
          obtain ⟨Bhc0, Bhc1, Bhc2, Bhl⟩ := cb3 Bh
          obtain ⟨Bsc0, Bsc1, Bsl⟩ := cb2 Bs
          obtain ⟨Bxc0, Bxc1, Bxl⟩ := cb2 Bx
          have Bmf0 := frozen_blk (j := 0) Bm.out
          have Bmf1 := frozen_blk (j := 1) Bm.out
          have Bof0 := frozen_blk (j := 0) Bo.out
          have Bof1 := frozen_blk (j := 1) Bo.out
          go_wp2_with fail
          clear Brc0 Brc1 Brc2 Brc3 Brc4 Brc5 Brc6 Brc7 Boc0 Boc1 Bkc0 Bkc1 Bkc2 Bnc0 Bmc0 Bmc1 Bhc0 Bhc1 Bhc2 Bsc0 Bsc1 Bxc0 Bxc1 Brl Bol Bkl Bnl Bml Bhl Bsl Bxl
          clear Bmf0 Bmf1
          clear Bof0 Bof1
          have HMO : Hid (ratioOk m1 m2 = true) := Lib.hid (by
            have bo := best_ok kp.out HPN.out (q.take k) (fun g hg => GQ.out g (List.mem_of_mem_take hg))
            rcases HI.out with ⟨h0, _, _⟩ | ⟨_, hI⟩
            · omega
            · rw [← hI] at bo; exact bo)
          have mb := ratioOk_bd HMO.out
          obtain ⟨c9, hc9⟩ : ∃ c, ratioCmp x1 x2 m1 m2 = c := ⟨_, rfl⟩
          have HC9 := Lib.hid hc9
          rw [hc9] at hN
          clear hc9
          refine (calls_ov (impl_RatioCmp_l HC9 (by omega) (by omega) (by omega) (by omega))).mono ?_
          rintro e w' ⟨rfl, x, rfl⟩
          obtain ⟨W227, hW⟩ : ∃ W227, W227 = ov W226 x := ⟨_, rfl⟩
          rw [← hW]
          have K : Below W226.heap.size W226 W227 := by rw [hW]; exact (by repeat (first | exact bR | refine bO ?_ | refine bA ?_ | refine bS ?_ | refine bD ?_ | refine bN ?_))
          clear hW
          replace KZ := KZ.trans (K.mono KZ.size)
          replace T := T.trans (K.mono T.size)
          replace Br := box_below Br K
          replace Bo := box_below Bo K
          replace Bk := box_below Bk K
          replace Bn := box_below Bn K
          replace Bm := box_below Bm K
          replace Bh := box_below Bh K
          replace Bs := box_below Bs K
          replace Bx := box_below Bx K
          replace Xk := Xk.below K
          replace Xn := Xn.below K
          clear K Sr
          have Sr := Rr.below (TV.trans (T.mono s0))
          by_cases hc0 : 0 < c9
          · rw [if_pos hc0] at hN
            obtain ⟨Brc0, Brc1, Brc2, Brc3, Brc4, Brc5, Brc6, Brc7, Brl⟩ := cb8 Br
            obtain ⟨Boc0, Boc1, Bol⟩ := cb2 Bo
            obtain ⟨Bkc0, Bkc1, Bkc2, Bkl⟩ := cb3 Bk
            obtain ⟨Bnc0, Bnl⟩ := cb1 Bn
            obtain ⟨Bmc0, Bmc1, Bml⟩ := cb2 Bm
            obtain ⟨Bhc0, Bhc1, Bhc2, Bhl⟩ := cb3 Bh
            obtain ⟨Bsc0, Bsc1, Bsl⟩ := cb2 Bs
            obtain ⟨Bxc0, Bxc1, Bxl⟩ := cb2 Bx
            have Bmf0 := frozen_blk (j := 0) Bm.out
            have Bmf1 := frozen_blk (j := 1) Bm.out
            have Bof0 := frozen_blk (j := 0) Bo.out
            have Bof1 := frozen_blk (j := 1) Bo.out
            go_wp2
            go_roundw
            case rel => exact ⟨k + 1, x1, x2, by omega, by go_num, Lib.hid (by first | exact set2_01 Bm.out | exact alloc_blk (set2_01 Bm.out) | exact set2_01 (alloc_blk Bm.out)), (by repeat (first | exact KZ | refine bO ?_ | refine bA ?_ | refine bS ?_ | refine bD ?_ | refine bN ?_)), Lib.hid (.inr ⟨by omega, hN⟩)⟩
            case measure => simp [intOf] <;> omega
          · rw [if_neg hc0] at hN
            obtain ⟨Brc0, Brc1, Brc2, Brc3, Brc4, Brc5, Brc6, Brc7, Brl⟩ := cb8 Br
            obtain ⟨Boc0, Boc1, Bol⟩ := cb2 Bo
            obtain ⟨Bkc0, Bkc1, Bkc2, Bkl⟩ := cb3 Bk
            obtain ⟨Bnc0, Bnl⟩ := cb1 Bn
            obtain ⟨Bmc0, Bmc1, Bml⟩ := cb2 Bm
            obtain ⟨Bhc0, Bhc1, Bhc2, Bhl⟩ := cb3 Bh
            obtain ⟨Bsc0, Bsc1, Bsl⟩ := cb2 Bs
            obtain ⟨Bxc0, Bxc1, Bxl⟩ := cb2 Bx
            have Bmf0 := frozen_blk (j := 0) Bm.out
            have Bmf1 := frozen_blk (j := 1) Bm.out
            have Bof0 := frozen_blk (j := 0) Bo.out
            have Bof1 := frozen_blk (j := 1) Bo.out
            go_wp2
            go_roundw
            case rel => exact ⟨k + 1, m1, m2, by omega, by go_num, Bm, (by repeat (first | exact KZ | refine bO ?_ | refine bA ?_ | refine bS ?_ | refine bD ?_ | refine bN ?_)), Lib.hid (.inr ⟨by omega, hN⟩)⟩
            case measure => simp [intOf] <;> omega
end Go.Proofs.YtabmfaamadbefaaGreat