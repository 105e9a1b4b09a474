/- Contracts of RobustPart of both sides. Condition: rows are short. -/
import Derived.Test.YtgdleimdenbnlaaGreatQz
import Derived.Test.YtgdleimdenbnlaaGreatEs
import Derived.Test.YtgdleimdenbnlaaGreatLk
set_option linter.unusedVariables false
set_option linter.unusedSimpArgs false
set_option linter.unusedSectionVars false
namespace Go.Proofs.YtgdleimdenbnlaaGreat
open Go.RowKit

set_option maxRecDepth 100000 in
set_option maxHeartbeats 8000000 in
theorem impl_RobustPart_eq {r : RoomV} {Ar1 Ar2 Ar3 : Option Addr} {cr1 cr2 cr3 : Nat} {p : List H3} {Ap : Option Addr} {cp : Nat} {w : World} {out : List H3} {ok : Bool} (Rr : RM w r Ar1 Ar2 cr2 Ar3 cr3) (hsr : r.Short) (Rp : R3 99 w Ap cp p) (hlp : p.length ≤ 1000000000) (hr : Hid (robustR r p = (out, ok))) :
    Calls Tryz.prog 25 #[.agg #[.slice Ar1 r.m.length cr1, .int .i64 r.q, .int .i64 r.bx, .int .i64 r.by_, .int .i64 r.lo, .int .i64 r.hi, .slice Ar2 r.ns.length cr2, .slice Ar3 r.ls.length cr3], .agg #[.slice Ap p.length cp]] w (RegPost w out ok) := by
  obtain ⟨t1, h1⟩ : ∃ t, roomOk r = t := ⟨_, rfl⟩
  obtain ⟨t2, h2⟩ : ∃ t, regionOk p = t := ⟨_, rfl⟩
  have hk := hr.out
  unfold robustR at hk
  rw [h1, h2] at hk
  have H1 := Lib.hid h1
  have H2 := Lib.hid h2
  clear hr h1 h2
  have hc : (t1 = false ∨ (t1 = true ∧ t2 = false)) ∨ (t1 = true ∧ t2 = true) := by cases t1 <;> cases t2 <;> simp
  rcases hc with hc | ⟨rfl, rfl⟩
  · rw [if_neg (by rcases hc with rfl | ⟨rfl, rfl⟩ <;> simp)] at hk
    simp at hk
    obtain ⟨rfl, rfl⟩ := hk
    rcases hc with rfl | ⟨rfl, rfl⟩
    all_goals
      go_enter Tryz.func25, Tryz.ntmps25
      go_wp2_with (first | (go_at_call 72; (first | (with_reducible refine (calls_ov2 (impl_RoomOk_eq (Rr.below (by repeat (first | exact bR | refine bO ?_ | refine bA ?_ | refine bS ?_ | refine bD ?_ | refine bN ?_))) hsr H1)).mono ?_) | refine (calls_ov (impl_RoomOk_eq (Rr.below (by repeat (first | exact bR | refine bO ?_ | refine bA ?_ | refine bS ?_ | refine bD ?_ | refine bN ?_))) hsr H1)).mono ?_); rintro e w' ⟨rfl, x, rfl⟩) | (go_at_call 64; (first | (with_reducible refine (calls_ov2 (impl_RegionOk_eq (Rp.below (by repeat (first | exact bR | refine bO ?_ | refine bA ?_ | refine bS ?_ | refine bD ?_ | refine bN ?_))) (by first | omega | exact hlp) H2)).mono ?_) | refine (calls_ov (impl_RegionOk_eq (Rp.below (by repeat (first | exact bR | refine bO ?_ | refine bA ?_ | refine bS ?_ | refine bD ?_ | refine bN ?_))) (by first | omega | exact hlp) H2)).mono ?_); rintro e w' ⟨rfl, x, rfl⟩))
      refine bodyPost_ret (v := .tuple #[.agg #[.slice none 0 0], .bool false]) (by simp [results, Tryz.results25, go_sem]) rfl ⟨none, 0, rfl, RB.nil _ _ _, (by repeat (first | exact bR | refine bO ?_ | refine bA ?_ | refine bS ?_ | refine bD ?_ | refine bN ?_))⟩
  · rw [if_pos ⟨rfl, rfl⟩] at hk
    have HK := Lib.hid hk
    clear hk
    have P := roomOk_parts H1.out
    go_enter Tryz.func25, Tryz.ntmps25
    go_wp2_with fail
    obtain ⟨V, hV⟩ : ∃ V, (((w.alloc (.cells #[.slice Ar1 r.m.length cr1, .int .i64 r.q, .int .i64 r.bx, .int .i64 r.by_, .int .i64 r.lo, .int .i64 r.hi, .slice Ar2 r.ns.length cr2, .slice Ar3 r.ls.length cr3] 39)).alloc (.cells #[.slice Ap p.length cp] 37)).alloc (.cells #[.slice none 0 0] 37)) = V := ⟨_, rfl⟩
    have TV : Below w.heap.size w V := by rw [← hV]; exact (by repeat (first | exact bR | refine bO ?_ | refine bA ?_ | refine bS ?_ | refine bD ?_ | refine bN ?_))
    have X0 : V.heap[w.heap.size]? = some (.cells #[.slice Ar1 r.m.length cr1, .int .i64 r.q, .int .i64 r.bx, .int .i64 r.by_, .int .i64 r.lo, .int .i64 r.hi, .slice Ar2 r.ns.length cr2, .slice Ar3 r.ls.length cr3] 39 (0, 0)) := by rw [← hV]; exact ((heap_old_at (by first | (simp; done) | (simp <;> omega))).trans ((heap_old_at (by first | (simp; done) | (simp <;> omega))).trans (heap_new_at (by first | (simp; done) | (simp <;> omega)) rfl)))
    have X1 : V.heap[w.heap.size + 1]? = some (.cells #[.slice Ap p.length cp] 37 (0, 0)) := by rw [← hV]; exact ((heap_old_at (by first | (simp; done) | (simp <;> omega))).trans (heap_new_at (by first | (simp; done) | (simp <;> omega)) rfl))
    have X2 : V.heap[w.heap.size + 1 + 1]? = some (.cells #[.slice none 0 0] 37 (0, 0)) := by rw [← hV]; exact (heap_new_at (by first | (simp; done) | (simp <;> omega)) rfl)
    rw [hV]
    clear hV
    have hbb2 : w.heap.size ≤ w.heap.size + 1 + 1 := by omega
    generalize w.heap.size + 1 + 1 = ba2 at X2 hbb2 ⊢
    have hbb1 : w.heap.size ≤ w.heap.size + 1 := by omega
    generalize w.heap.size + 1 = ba1 at X1 hbb1 ⊢
    obtain ⟨W0, hW⟩ : ∃ W0, W0 = V := ⟨_, rfl⟩
    rw [← hW]
    have T : Below V.heap.size V W0 := by rw [hW]; exact Below.refl _ _
    clear hW
    have Br := box_below (Lib.hid X0) T
    clear X0
    have Bp := box_below (Lib.hid X1) T
    clear X1
    have Bo := box_below (Lib.hid X2) T
    clear X2
    have s0 : w.heap.size ≤ V.heap.size := TV.size
    obtain ⟨ba0, hba0⟩ : ∃ b, w.heap.size = b := ⟨_, rfl⟩
    rw [hba0] at Br
    try rw [hba0]
    have Sr := Rr.below (TV.trans (T.mono s0))
    have Sp := Rp.below (TV.trans (T.mono s0))
    refine (calls_ov (impl_RoomOk_eq (Sr.below (by repeat (first | exact bR | refine bO ?_ | refine bA ?_ | refine bS ?_ | refine bD ?_ | refine bN ?_))) hsr H1)).mono ?_
    rintro e w' ⟨rfl, x, rfl⟩
    obtain ⟨W1, hW⟩ : ∃ W1, W1 = ov W0 x := ⟨_, rfl⟩
    rw [← hW]
    have K : Below W0.heap.size W0 W1 := by rw [hW]; exact (by repeat (first | exact bR | refine bO ?_ | refine bA ?_ | refine bS ?_ | refine bD ?_ | refine bN ?_))
    clear hW
    replace T := T.trans (K.mono T.size)
    replace Br := box_below Br K
    replace Bp := box_below Bp K
    replace Bo := box_below Bo K
    clear K Sr Sp
    have Sr := Rr.below (TV.trans (T.mono s0))
    have Sp := Rp.below (TV.trans (T.mono s0))
    obtain ⟨Brc0, Brc1, Brc2, Brc3, Brc4, Brc5, Brc6, Brc7, Brl⟩ := cb8 Br
    obtain ⟨Bpc0, Bpl⟩ := cb1 Bp
    obtain ⟨Boc0, Bol⟩ := cb1 Bo
    have Bof0 := frozen_blk (j := 0) Bo.out
    go_wp2_with fail
    clear Brc0 Brc1 Brc2 Brc3 Brc4 Brc5 Brc6 Brc7 Bpc0 Boc0 Brl Bpl Bol
    clear Bof0
    refine (calls_ov (impl_RegionOk_eq (Sp.below (by repeat (first | exact bR | refine bO ?_ | refine bA ?_ | refine bS ?_ | refine bD ?_ | refine bN ?_))) (by first | omega | exact hlp) H2)).mono ?_
    rintro e w' ⟨rfl, x, rfl⟩
    obtain ⟨W2, hW⟩ : ∃ W2, W2 = ov W1 x := ⟨_, rfl⟩
    rw [← hW]
    have K : Below W1.heap.size W1 W2 := by rw [hW]; exact (by repeat (first | exact bR | refine bO ?_ | refine bA ?_ | refine bS ?_ | refine bD ?_ | refine bN ?_))
    clear hW
    replace T := T.trans (K.mono T.size)
    replace Br := box_below Br K
    replace Bp := box_below Bp K
    replace Bo := box_below Bo K
    clear K Sr Sp
    have Sr := Rr.below (TV.trans (T.mono s0))
    have Sp := Rp.below (TV.trans (T.mono s0))
    obtain ⟨Brc0, Brc1, Brc2, Brc3, Brc4, Brc5, Brc6, Brc7, Brl⟩ := cb8 Br
    obtain ⟨Bpc0, Bpl⟩ := cb1 Bp
    obtain ⟨Boc0, Bol⟩ := cb1 Bo
    have Bof0 := frozen_blk (j := 0) Bo.out
    go_wp2_with fail
    clear Brc0 Brc1 Brc2 Brc3 Brc4 Brc5 Brc6 Brc7 Bpc0 Boc0 Brl Bpl Bol
    clear Bof0
    refine (erode_eq P.nk P.ns (Sr.nr.below (by repeat (first | exact bR | refine bO ?_ | refine bA ?_ | refine bS ?_ | refine bD ?_ | refine bN ?_))) (Sp.below (by repeat (first | exact bR | refine bO ?_ | refine bA ?_ | refine bS ?_ | refine bD ?_ | refine bN ?_))) H2.out HK).mono ?_
    rintro e W3 ⟨aq, dq, rfl, Xq, hb⟩
    have K : Below W2.heap.size W2 W3 := Below.trans (by repeat (first | exact bR | refine bO ?_ | refine bA ?_ | refine bS ?_ | refine bD ?_ | refine bN ?_)) (hb.mono (by first | exact Nat.le_refl _ | simp [ov_size]))
    replace Xq := Xq.weak (B' := V.heap.size) (by have := T.size; (try simp [ov_size]); omega)
    clear hb
    replace T := T.trans (K.mono T.size)
    replace Br := box_below Br K
    replace Bp := box_below Bp K
    replace Bo := box_below Bo K
    clear K Sr Sp
    have Sr := Rr.below (TV.trans (T.mono s0))
    have Sp := Rp.below (TV.trans (T.mono s0))
    obtain ⟨Brc0, Brc1, Brc2, Brc3, Brc4, Brc5, Brc6, Brc7, Brl⟩ := cb8 Br
    obtain ⟨Bpc0, Bpl⟩ := cb1 Bp
    obtain ⟨Boc0, Bol⟩ := cb1 Bo
    have Bof0 := frozen_blk (j := 0) Bo.out
    go_wp2
    refine bodyPost_ret (v := .tuple #[.agg #[.slice aq out.length dq], .bool ok]) (by simp [results, Tryz.results25, go_sem, Boc0, Bol]) rfl ⟨aq, dq, rfl, (Xq.weak s0).set_box Bo.out (by decide), (TV.trans (T.mono s0)).setCell hbb2 _⟩

set_option maxRecDepth 100000 in
set_option maxHeartbeats 8000000 in
theorem spec_RobustPart_eq {r : RoomV} {Ar1 Ar2 Ar3 : Option Addr} {cr1 cr2 cr3 : Nat} {p : List H3} {Ap : Option Addr} {cp : Nat} {w : World} {out : List H3} {ok : Bool} (Rr : RM w r Ar1 Ar2 cr2 Ar3 cr3) (hsr : r.Short) (Rp : R3 99 w Ap cp p) (hlp : p.length ≤ 1000000000) (hr : Hid (robustR r p = (out, ok))) :
    Calls Tryz.prog 24 #[.agg #[.slice Ar1 r.m.length cr1, .int .i64 r.q, .int .i64 r.bx, .int .i64 r.by_, .int .i64 r.lo, .int .i64 r.hi, .slice Ar2 r.ns.length cr2, .slice Ar3 r.ls.length cr3], .agg #[.slice Ap p.length cp]] w (RegPost w out ok) := by
  obtain ⟨t1, h1⟩ : ∃ t, roomOk r = t := ⟨_, rfl⟩
  have H1 := Lib.hid h1
  have hk := hr.out
  clear hr
  cases t1 with
  | false =>
    rw [robustR_false h1, Prod.mk.injEq] at hk
    obtain ⟨rfl, rfl⟩ := hk
    clear h1
    go_enter Tryz.func24, Tryz.ntmps24
    go_wp2_with fail
    obtain ⟨V, hV⟩ : ∃ V, (((w.alloc (.cells #[.slice Ar1 r.m.length cr1, .int .i64 r.q, .int .i64 r.bx, .int .i64 r.by_, .int .i64 r.lo, .int .i64 r.hi, .slice Ar2 r.ns.length cr2, .slice Ar3 r.ls.length cr3] 39)).alloc (.cells #[.slice Ap p.length cp] 37)).alloc (.cells #[.slice none 0 0] 37)) = V := ⟨_, rfl⟩
    have TV : Below w.heap.size w V := by rw [← hV]; exact (by repeat (first | exact bR | refine bO ?_ | refine bA ?_ | refine bS ?_ | refine bD ?_ | refine bN ?_))
    have X0 : V.heap[w.heap.size]? = some (.cells #[.slice Ar1 r.m.length cr1, .int .i64 r.q, .int .i64 r.bx, .int .i64 r.by_, .int .i64 r.lo, .int .i64 r.hi, .slice Ar2 r.ns.length cr2, .slice Ar3 r.ls.length cr3] 39 (0, 0)) := by rw [← hV]; exact ((heap_old_at (by first | (simp; done) | (simp <;> omega))).trans ((heap_old_at (by first | (simp; done) | (simp <;> omega))).trans (heap_new_at (by first | (simp; done) | (simp <;> omega)) rfl)))
    have X1 : V.heap[w.heap.size + 1]? = some (.cells #[.slice Ap p.length cp] 37 (0, 0)) := by rw [← hV]; exact ((heap_old_at (by first | (simp; done) | (simp <;> omega))).trans (heap_new_at (by first | (simp; done) | (simp <;> omega)) rfl))
    have X2 : V.heap[w.heap.size + 1 + 1]? = some (.cells #[.slice none 0 0] 37 (0, 0)) := by rw [← hV]; exact (heap_new_at (by first | (simp; done) | (simp <;> omega)) rfl)
    rw [hV]
    clear hV
    have hbb2 : w.heap.size ≤ w.heap.size + 1 + 1 := by omega
    generalize w.heap.size + 1 + 1 = ba2 at X2 hbb2 ⊢
    have hbb1 : w.heap.size ≤ w.heap.size + 1 := by omega
    generalize w.heap.size + 1 = ba1 at X1 hbb1 ⊢
    obtain ⟨W0, hW⟩ : ∃ W0, W0 = V := ⟨_, rfl⟩
    rw [← hW]
    have T : Below V.heap.size V W0 := by rw [hW]; exact Below.refl _ _
    clear hW
    have Br := box_below (Lib.hid X0) T
    clear X0
    have Bp := box_below (Lib.hid X1) T
    clear X1
    have Bo := box_below (Lib.hid X2) T
    clear X2
    have s0 : w.heap.size ≤ V.heap.size := TV.size
    obtain ⟨ba0, hba0⟩ : ∃ b, w.heap.size = b := ⟨_, rfl⟩
    rw [hba0] at Br
    try rw [hba0]
    have Sr := Rr.below (TV.trans (T.mono s0))
    have Sp := Rp.below (TV.trans (T.mono s0))
    refine (calls_ov (spec_RoomOk_eq (Sr.below (by repeat (first | exact bR | refine bO ?_ | refine bA ?_ | refine bS ?_ | refine bD ?_ | refine bN ?_))) hsr H1)).mono ?_
    rintro e w' ⟨rfl, x, rfl⟩
    obtain ⟨W1, hW⟩ : ∃ W1, W1 = ov W0 x := ⟨_, rfl⟩
    rw [← hW]
    have K : Below W0.heap.size W0 W1 := by rw [hW]; exact (by repeat (first | exact bR | refine bO ?_ | refine bA ?_ | refine bS ?_ | refine bD ?_ | refine bN ?_))
    clear hW
    replace T := T.trans (K.mono T.size)
    replace Br := box_below Br K
    replace Bp := box_below Bp K
    replace Bo := box_below Bo K
    clear K Sr Sp
    have Sr := Rr.below (TV.trans (T.mono s0))
    have Sp := Rp.below (TV.trans (T.mono s0))
    obtain ⟨Brc0, Brc1, Brc2, Brc3, Brc4, Brc5, Brc6, Brc7, Brl⟩ := cb8 Br
    obtain ⟨Bpc0, Bpl⟩ := cb1 Bp
    obtain ⟨Boc0, Bol⟩ := cb1 Bo
    have Bof0 := frozen_blk (j := 0) Bo.out
    go_wp2
    refine bodyPost_ret (v := .tuple #[.agg #[.slice none 0 0], .bool false]) (by simp [results, Tryz.results24, go_sem, Boc0, Bol]) rfl ⟨none, 0, rfl, RB.nil _ _ _, ?_⟩
    exact (by repeat (first | exact TV.trans (T.mono s0) | refine bO ?_ | refine bA ?_ | refine bS ?_ | refine bD ?_ | refine bN ?_))
  | true =>
    rw [robustR_true h1] at hk
    have HK := Lib.hid hk
    have hn := hsr.ns
    clear h1 hk
    go_enter Tryz.func24, Tryz.ntmps24
    go_wp2_with fail
    obtain ⟨V, hV⟩ : ∃ V, (((w.alloc (.cells #[.slice Ar1 r.m.length cr1, .int .i64 r.q, .int .i64 r.bx, .int .i64 r.by_, .int .i64 r.lo, .int .i64 r.hi, .slice Ar2 r.ns.length cr2, .slice Ar3 r.ls.length cr3] 39)).alloc (.cells #[.slice Ap p.length cp] 37)).alloc (.cells #[.slice none 0 0] 37)) = V := ⟨_, rfl⟩
    have TV : Below w.heap.size w V := by rw [← hV]; exact (by repeat (first | exact bR | refine bO ?_ | refine bA ?_ | refine bS ?_ | refine bD ?_ | refine bN ?_))
    have X0 : V.heap[w.heap.size]? = some (.cells #[.slice Ar1 r.m.length cr1, .int .i64 r.q, .int .i64 r.bx, .int .i64 r.by_, .int .i64 r.lo, .int .i64 r.hi, .slice Ar2 r.ns.length cr2, .slice Ar3 r.ls.length cr3] 39 (0, 0)) := by rw [← hV]; exact ((heap_old_at (by first | (simp; done) | (simp <;> omega))).trans ((heap_old_at (by first | (simp; done) | (simp <;> omega))).trans (heap_new_at (by first | (simp; done) | (simp <;> omega)) rfl)))
    have X1 : V.heap[w.heap.size + 1]? = some (.cells #[.slice Ap p.length cp] 37 (0, 0)) := by rw [← hV]; exact ((heap_old_at (by first | (simp; done) | (simp <;> omega))).trans (heap_new_at (by first | (simp; done) | (simp <;> omega)) rfl))
    have X2 : V.heap[w.heap.size + 1 + 1]? = some (.cells #[.slice none 0 0] 37 (0, 0)) := by rw [← hV]; exact (heap_new_at (by first | (simp; done) | (simp <;> omega)) rfl)
    rw [hV]
    clear hV
    have hbb2 : w.heap.size ≤ w.heap.size + 1 + 1 := by omega
    generalize w.heap.size + 1 + 1 = ba2 at X2 hbb2 ⊢
    have hbb1 : w.heap.size ≤ w.heap.size + 1 := by omega
    generalize w.heap.size + 1 = ba1 at X1 hbb1 ⊢
    obtain ⟨W0, hW⟩ : ∃ W0, W0 = V := ⟨_, rfl⟩
    rw [← hW]
    have T : Below V.heap.size V W0 := by rw [hW]; exact Below.refl _ _
    clear hW
    have Br := box_below (Lib.hid X0) T
    clear X0
    have Bp := box_below (Lib.hid X1) T
    clear X1
    have Bo := box_below (Lib.hid X2) T
    clear X2
    have s0 : w.heap.size ≤ V.heap.size := TV.size
    obtain ⟨ba0, hba0⟩ : ∃ b, w.heap.size = b := ⟨_, rfl⟩
    rw [hba0] at Br
    try rw [hba0]
    have Sr := Rr.below (TV.trans (T.mono s0))
    have Sp := Rp.below (TV.trans (T.mono s0))
    refine (calls_ov (spec_RoomOk_eq (Sr.below (by repeat (first | exact bR | refine bO ?_ | refine bA ?_ | refine bS ?_ | refine bD ?_ | refine bN ?_))) hsr H1)).mono ?_
    rintro e w' ⟨rfl, x, rfl⟩
    obtain ⟨W2, hW⟩ : ∃ W2, W2 = ov W0 x := ⟨_, rfl⟩
    rw [← hW]
    have K : Below W0.heap.size W0 W2 := by rw [hW]; exact (by repeat (first | exact bR | refine bO ?_ | refine bA ?_ | refine bS ?_ | refine bD ?_ | refine bN ?_))
    clear hW
    replace T := T.trans (K.mono T.size)
    replace Br := box_below Br K
    replace Bp := box_below Bp K
    replace Bo := box_below Bo K
    clear K Sr Sp
    have Sr := Rr.below (TV.trans (T.mono s0))
    have Sp := Rp.below (TV.trans (T.mono s0))
    obtain ⟨Brc0, Brc1, Brc2, Brc3, Brc4, Brc5, Brc6, Brc7, Brl⟩ := cb8 Br
    obtain ⟨Bpc0, Bpl⟩ := cb1 Bp
    obtain ⟨Boc0, Bol⟩ := cb1 Bo
    have Bof0 := frozen_blk (j := 0) Bo.out
    go_wp2_with fail
    clear Brc0 Brc1 Brc2 Brc3 Brc4 Brc5 Brc6 Brc7 Bpc0 Boc0 Brl Bpl Bol
    clear Bof0
    refine (spec_ErodeRegion_eq (Sp.below (by repeat (first | exact bR | refine bO ?_ | refine bA ?_ | refine bS ?_ | refine bD ?_ | refine bN ?_))) hlp (Sr.nr.below (by repeat (first | exact bR | refine bO ?_ | refine bA ?_ | refine bS ?_ | refine bD ?_ | refine bN ?_))) (by omega) HK).mono ?_
    rintro e W3 ⟨aq, dq, rfl, Xq, hb⟩
    have K : Below W2.heap.size W2 W3 := Below.trans (by repeat (first | exact bR | refine bO ?_ | refine bA ?_ | refine bS ?_ | refine bD ?_ | refine bN ?_)) (hb.mono (by first | exact Nat.le_refl _ | simp [ov_size]))
    replace Xq := Xq.weak (B' := V.heap.size) (by have := T.size; (try simp [ov_size]); omega)
    clear hb
    replace T := T.trans (K.mono T.size)
    replace Br := box_below Br K
    replace Bp := box_below Bp K
    replace Bo := box_below Bo K
    clear K Sr Sp
    have Sr := Rr.below (TV.trans (T.mono s0))
    have Sp := Rp.below (TV.trans (T.mono s0))
    obtain ⟨Brc0, Brc1, Brc2, Brc3, Brc4, Brc5, Brc6, Brc7, Brl⟩ := cb8 Br
    obtain ⟨Bpc0, Bpl⟩ := cb1 Bp
    obtain ⟨Boc0, Bol⟩ := cb1 Bo
    have Bof0 := frozen_blk (j := 0) Bo.out
    go_wp2
    refine bodyPost_ret (v := .tuple #[.agg #[.slice aq out.length dq], .bool ok]) (by simp [results, Tryz.results24, go_sem, Boc0, Bol]) rfl ⟨aq, dq, rfl, (Xq.weak s0).set_box Bo.out (by decide), (TV.trans (T.mono s0)).setCell hbb2 _⟩
end Go.Proofs.YtgdleimdenbnlaaGreat
