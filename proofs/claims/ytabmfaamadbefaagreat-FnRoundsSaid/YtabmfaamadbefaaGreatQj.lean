/- Contracts of IsKept of both sides. Condition: rows are short. -/
import Derived.Test.YtabmfaamadbefaaGreatQb
import Derived.Test.YtabmfaamadbefaaGreatQe
import Derived.Test.YtabmfaamadbefaaGreatGt
import Derived.Test.YtabmfaamadbefaaGreatQz
import Derived.Test.YtabmfaamadbefaaGreatHsp
import Derived.Test.YtabmfaamadbefaaGreatWn
set_option linter.unusedVariables false
set_option linter.unusedSimpArgs false
set_option linter.unusedSectionVars false
namespace Go.Proofs.YtabmfaamadbefaaGreat
open Go.RowKit
def isKeptR (r : RoomV) (p : List H3) : Bool := roomOk r && isWithinR p r.ls && (decide (p = []) || ((preR r p).2 && isWithinR p (preR r p).1))
theorem preM_void {r : RoomV} : preM r [] = ([], true) := by
  unfold preM
  rw [show movedF (erF r.ns) [] = ([], true) by unfold movedF; rw [if_pos rfl], thenL_true (x := (([] : List H3), true)) rfl]
  rw [show growP r ([] : List H3) = ([], true) by unfold growP growM; rw [if_pos (by simp), if_pos (.inl rfl)], thenL_true (x := (([] : List H3), true)) rfl]
  unfold pullM movedF
  rw [if_pos rfl]
theorem within_void (q : List H3) : withinL [] q = true := rfl
theorem isKept_impl {r : RoomV} {p : List H3} (h1 : roomOk r = true) (h2 : regionOk p = true) : isKeptR r p = (withinL p r.ls && ((preM r p).2 && withinL p (preM r p).1)) := by
  have P := roomOk_parts h1
  have e1 : isWithinR p r.ls = withinL p r.ls := by unfold isWithinR; rw [h2, P.lk]; rfl
  have e2 : preR r p = preM r p := by unfold preR; rw [if_pos ⟨h1, h2⟩]
  unfold isKeptR
  rw [h1, e1, e2]
  by_cases hp : p = []
  · subst hp
    rw [preM_void]; rfl
  · obtain ⟨⟨q, v⟩, hq⟩ : ∃ s, preM r p = s := ⟨_, rfl⟩
    rw [hq]
    cases v with
    | false => simp [hp]
    | true =>
      have e3 : isWithinR p q = withinL p q := by unfold isWithinR; rw [h2, preM_ok hq]; rfl
      simp [hp, e3]
theorem isKept_no1 {r : RoomV} {p : List H3} (h : roomOk r = false) : isKeptR r p = false := by unfold isKeptR; rw [h]; rfl
theorem isKept_no2 {r : RoomV} {p : List H3} (h : regionOk p = false) : isKeptR r p = false := by unfold isKeptR isWithinR; rw [h]; simp
set_option maxRecDepth 100000 in
set_option maxHeartbeats 8000000 in
theorem impl_IsKept_eq {r : RoomV} {Ar1 Ar2 Ar3 : Option Addr} {cr1 cr2 cr3 : Nat} {p : List H3} {Ap : Option Addr} {cp : Nat} {w : World} {v : Bool} (Rr : RM w r Ar1 Ar2 cr2 Ar3 cr3) (hsr : r.Short) (Rp : R3 44 w Ap cp p) (hlp : p.length ≤ 1000000000) (hr : Hid (isKeptR r p = v)) :
    Calls Tryz.prog 17 #[.agg #[.slice Ar1 r.m.length cr1, .int .i64 r.q, .int .i64 r.bx, .int .i64 r.by_, .int .i64 r.lo, .int .i64 r.hi, .slice Ar2 r.ns.length cr2, .slice Ar3 r.ls.length cr3], .agg #[.slice Ap p.length cp]] w (fun e w' => e = .returned (.bool v) ∧ Below w.heap.size w w') := by
  have hk := hr.out
  clear hr
  obtain ⟨t1, h1⟩ : ∃ t, roomOk r = t := ⟨_, rfl⟩
  obtain ⟨t2, h2⟩ : ∃ t, regionOk p = t := ⟨_, rfl⟩
  have H1 := Lib.hid h1
  have H2 := Lib.hid h2
  have hc : (v = false ∧ (t1 = false ∨ (t1 = true ∧ t2 = false))) ∨ (t1 = true ∧ t2 = true) := by
    cases t1 with
    | false => exact .inl ⟨by rw [← hk]; exact isKept_no1 h1, .inl rfl⟩
    | true =>
      cases t2 with
      | false => exact .inl ⟨by rw [← hk]; exact isKept_no2 h2, .inr ⟨rfl, rfl⟩⟩
      | true => exact .inr ⟨rfl, rfl⟩
  rcases hc with ⟨rfl, hc⟩ | ⟨rfl, rfl⟩
  · clear h1 h2 hk
    rcases hc with rfl | ⟨rfl, rfl⟩
    · skip
      go_enter Tryz.func17, Tryz.ntmps17
      go_wp2_with fail
      obtain ⟨V, hV⟩ : ∃ V, ((w.alloc (.cells #[.slice Ar1 r.m.length cr1, .int .i64 r.q, .int .i64 r.bx, .int .i64 r.by_, .int .i64 r.lo, .int .i64 r.hi, .slice Ar2 r.ns.length cr2, .slice Ar3 r.ls.length cr3] 28)).alloc (.cells #[.slice Ap p.length cp] 26)) = V := ⟨_, rfl⟩
      have TV : Below w.heap.size w V := by rw [← hV]; exact (by repeat (first | exact bR | refine bO ?_ | refine bA ?_ | refine bS ?_ | refine bD ?_ | refine bN ?_))
      have X0 : V.heap[w.heap.size]? = some (.cells #[.slice Ar1 r.m.length cr1, .int .i64 r.q, .int .i64 r.bx, .int .i64 r.by_, .int .i64 r.lo, .int .i64 r.hi, .slice Ar2 r.ns.length cr2, .slice Ar3 r.ls.length cr3] 28 (0, 0)) := by rw [← hV]; exact ((heap_old_at (by first | (simp; done) | (simp <;> omega))).trans (heap_new_at (by first | (simp; done) | (simp <;> omega)) rfl))
      have X1 : V.heap[w.heap.size + 1]? = some (.cells #[.slice Ap p.length cp] 26 (0, 0)) := by rw [← hV]; exact (heap_new_at (by first | (simp; done) | (simp <;> omega)) rfl)
      rw [hV]
      clear hV
      have hbb1 : w.heap.size ≤ w.heap.size + 1 := by omega
      generalize w.heap.size + 1 = ba1 at X1 hbb1 ⊢
      obtain ⟨W0, hW⟩ : ∃ W0, W0 = V := ⟨_, rfl⟩
      rw [← hW]
      have T : Below V.heap.size V W0 := by rw [hW]; exact Below.refl _ _
      clear hW
      have Br := box_below (Lib.hid X0) T
      clear X0
      have Bp := box_below (Lib.hid X1) T
      clear X1
      have s0 : w.heap.size ≤ V.heap.size := TV.size
      obtain ⟨ba0, hba0⟩ : ∃ b, w.heap.size = b := ⟨_, rfl⟩
      rw [hba0] at Br
      try rw [hba0]
      have Sr := Rr.below (TV.trans (T.mono s0))
      have Sp := Rp.below (TV.trans (T.mono s0))
      refine (calls_ov (impl_RoomOk_eq (Sr.below (by repeat (first | exact bR | refine bO ?_ | refine bA ?_ | refine bS ?_ | refine bD ?_ | refine bN ?_))) hsr H1)).mono ?_
      rintro e w' ⟨rfl, x, rfl⟩
      obtain ⟨W1, hW⟩ : ∃ W1, W1 = ov W0 x := ⟨_, rfl⟩
      rw [← hW]
      have K : Below W0.heap.size W0 W1 := by rw [hW]; exact (by repeat (first | exact bR | refine bO ?_ | refine bA ?_ | refine bS ?_ | refine bD ?_ | refine bN ?_))
      clear hW
      replace T := T.trans (K.mono T.size)
      replace Br := box_below Br K
      replace Bp := box_below Bp K
      clear K Sr Sp
      have Sr := Rr.below (TV.trans (T.mono s0))
      have Sp := Rp.below (TV.trans (T.mono s0))
      obtain ⟨Brc0, Brc1, Brc2, Brc3, Brc4, Brc5, Brc6, Brc7, Brl⟩ := cb8 Br
      obtain ⟨Bpc0, Bpl⟩ := cb1 Bp
      go_wp2
      go_ret
      exact ⟨rfl, (by repeat (first | exact TV.trans (T.mono s0) | refine bO ?_ | refine bA ?_ | refine bS ?_ | refine bD ?_ | refine bN ?_))⟩
    · skip
      go_enter Tryz.func17, Tryz.ntmps17
      go_wp2_with fail
      obtain ⟨V, hV⟩ : ∃ V, ((w.alloc (.cells #[.slice Ar1 r.m.length cr1, .int .i64 r.q, .int .i64 r.bx, .int .i64 r.by_, .int .i64 r.lo, .int .i64 r.hi, .slice Ar2 r.ns.length cr2, .slice Ar3 r.ls.length cr3] 28)).alloc (.cells #[.slice Ap p.length cp] 26)) = V := ⟨_, rfl⟩
      have TV : Below w.heap.size w V := by rw [← hV]; exact (by repeat (first | exact bR | refine bO ?_ | refine bA ?_ | refine bS ?_ | refine bD ?_ | refine bN ?_))
      have X0 : V.heap[w.heap.size]? = some (.cells #[.slice Ar1 r.m.length cr1, .int .i64 r.q, .int .i64 r.bx, .int .i64 r.by_, .int .i64 r.lo, .int .i64 r.hi, .slice Ar2 r.ns.length cr2, .slice Ar3 r.ls.length cr3] 28 (0, 0)) := by rw [← hV]; exact ((heap_old_at (by first | (simp; done) | (simp <;> omega))).trans (heap_new_at (by first | (simp; done) | (simp <;> omega)) rfl))
      have X1 : V.heap[w.heap.size + 1]? = some (.cells #[.slice Ap p.length cp] 26 (0, 0)) := by rw [← hV]; exact (heap_new_at (by first | (simp; done) | (simp <;> omega)) rfl)
      rw [hV]
      clear hV
      have hbb1 : w.heap.size ≤ w.heap.size + 1 := by omega
      generalize w.heap.size + 1 = ba1 at X1 hbb1 ⊢
      obtain ⟨W0, hW⟩ : ∃ W0, W0 = V := ⟨_, rfl⟩
      rw [← hW]
      have T : Below V.heap.size V W0 := by rw [hW]; exact Below.refl _ _
      clear hW
      have Br := box_below (Lib.hid X0) T
      clear X0
      have Bp := box_below (Lib.hid X1) T
      clear X1
      have s0 : w.heap.size ≤ V.heap.size := TV.size
      obtain ⟨ba0, hba0⟩ : ∃ b, w.heap.size = b := ⟨_, rfl⟩
      rw [hba0] at Br
      try rw [hba0]
      have Sr := Rr.below (TV.trans (T.mono s0))
      have Sp := Rp.below (TV.trans (T.mono s0))
      refine (calls_ov (impl_RoomOk_eq (Sr.below (by repeat (first | exact bR | refine bO ?_ | refine bA ?_ | refine bS ?_ | refine bD ?_ | refine bN ?_))) hsr H1)).mono ?_
      rintro e w' ⟨rfl, x, rfl⟩
      obtain ⟨W2, hW⟩ : ∃ W2, W2 = ov W0 x := ⟨_, rfl⟩
      rw [← hW]
      have K : Below W0.heap.size W0 W2 := by rw [hW]; exact (by repeat (first | exact bR | refine bO ?_ | refine bA ?_ | refine bS ?_ | refine bD ?_ | refine bN ?_))
      clear hW
      replace T := T.trans (K.mono T.size)
      replace Br := box_below Br K
      replace Bp := box_below Bp K
      clear K Sr Sp
      have Sr := Rr.below (TV.trans (T.mono s0))
      have Sp := Rp.below (TV.trans (T.mono s0))
      obtain ⟨Brc0, Brc1, Brc2, Brc3, Brc4, Brc5, Brc6, Brc7, Brl⟩ := cb8 Br
      obtain ⟨Bpc0, Bpl⟩ := cb1 Bp
      go_wp2_with fail
      clear Brc0 Brc1 Brc2 Brc3 Brc4 Brc5 Brc6 Brc7 Bpc0 Brl Bpl
      refine (calls_ov (impl_RegionOk_eq (Sp.below (by repeat (first | exact bR | refine bO ?_ | refine bA ?_ | refine bS ?_ | refine bD ?_ | refine bN ?_))) (by omega) H2)).mono ?_
      rintro e w' ⟨rfl, x, rfl⟩
      obtain ⟨W3, hW⟩ : ∃ W3, W3 = ov W2 x := ⟨_, rfl⟩
      rw [← hW]
      have K : Below W2.heap.size W2 W3 := by rw [hW]; exact (by repeat (first | exact bR | refine bO ?_ | refine bA ?_ | refine bS ?_ | refine bD ?_ | refine bN ?_))
      clear hW
      replace T := T.trans (K.mono T.size)
      replace Br := box_below Br K
      replace Bp := box_below Bp K
      clear K Sr Sp
      have Sr := Rr.below (TV.trans (T.mono s0))
      have Sp := Rp.below (TV.trans (T.mono s0))
      obtain ⟨Brc0, Brc1, Brc2, Brc3, Brc4, Brc5, Brc6, Brc7, Brl⟩ := cb8 Br
      obtain ⟨Bpc0, Bpl⟩ := cb1 Bp
      go_wp2
      go_ret
      exact ⟨rfl, (by repeat (first | exact TV.trans (T.mono s0) | refine bO ?_ | refine bA ?_ | refine bS ?_ | refine bD ?_ | refine bN ?_))⟩
  rw [isKept_impl h1 h2] at hk
  have P := roomOk_parts h1
  have kp := Lib.hid h2
  have lk := Lib.hid P.lk
  have HP := Lib.hid P
  obtain ⟨t3, h3⟩ : ∃ t, withinL p r.ls = t := ⟨_, rfl⟩
  have H3 := Lib.hid h3
  rw [h3] at hk
  clear h1 h2 h3 P
  cases t3 with
  | false =>
    obtain rfl : false = v := hk
    go_enter Tryz.func17, Tryz.ntmps17
    go_wp2_with fail
    obtain ⟨V, hV⟩ : ∃ V, ((w.alloc (.cells #[.slice Ar1 r.m.length cr1, .int .i64 r.q, .int .i64 r.bx, .int .i64 r.by_, .int .i64 r.lo, .int .i64 r.hi, .slice Ar2 r.ns.length cr2, .slice Ar3 r.ls.length cr3] 28)).alloc (.cells #[.slice Ap p.length cp] 26)) = V := ⟨_, rfl⟩
    have TV : Below w.heap.size w V := by rw [← hV]; exact (by repeat (first | exact bR | refine bO ?_ | refine bA ?_ | refine bS ?_ | refine bD ?_ | refine bN ?_))
    have X0 : V.heap[w.heap.size]? = some (.cells #[.slice Ar1 r.m.length cr1, .int .i64 r.q, .int .i64 r.bx, .int .i64 r.by_, .int .i64 r.lo, .int .i64 r.hi, .slice Ar2 r.ns.length cr2, .slice Ar3 r.ls.length cr3] 28 (0, 0)) := by rw [← hV]; exact ((heap_old_at (by first | (simp; done) | (simp <;> omega))).trans (heap_new_at (by first | (simp; done) | (simp <;> omega)) rfl))
    have X1 : V.heap[w.heap.size + 1]? = some (.cells #[.slice Ap p.length cp] 26 (0, 0)) := by rw [← hV]; exact (heap_new_at (by first | (simp; done) | (simp <;> omega)) rfl)
    rw [hV]
    clear hV
    have hbb1 : w.heap.size ≤ w.heap.size + 1 := by omega
    generalize w.heap.size + 1 = ba1 at X1 hbb1 ⊢
    obtain ⟨W0, hW⟩ : ∃ W0, W0 = V := ⟨_, rfl⟩
    rw [← hW]
    have T : Below V.heap.size V W0 := by rw [hW]; exact Below.refl _ _
    clear hW
    have Br := box_below (Lib.hid X0) T
    clear X0
    have Bp := box_below (Lib.hid X1) T
    clear X1
    have s0 : w.heap.size ≤ V.heap.size := TV.size
    obtain ⟨ba0, hba0⟩ : ∃ b, w.heap.size = b := ⟨_, rfl⟩
    rw [hba0] at Br
    try rw [hba0]
    have Sr := Rr.below (TV.trans (T.mono s0))
    have Sp := Rp.below (TV.trans (T.mono s0))
    refine (calls_ov (impl_RoomOk_eq (Sr.below (by repeat (first | exact bR | refine bO ?_ | refine bA ?_ | refine bS ?_ | refine bD ?_ | refine bN ?_))) hsr H1)).mono ?_
    rintro e w' ⟨rfl, x, rfl⟩
    obtain ⟨W4, hW⟩ : ∃ W4, W4 = ov W0 x := ⟨_, rfl⟩
    rw [← hW]
    have K : Below W0.heap.size W0 W4 := by rw [hW]; exact (by repeat (first | exact bR | refine bO ?_ | refine bA ?_ | refine bS ?_ | refine bD ?_ | refine bN ?_))
    clear hW
    replace T := T.trans (K.mono T.size)
    replace Br := box_below Br K
    replace Bp := box_below Bp K
    clear K Sr Sp
    have Sr := Rr.below (TV.trans (T.mono s0))
    have Sp := Rp.below (TV.trans (T.mono s0))
    obtain ⟨Brc0, Brc1, Brc2, Brc3, Brc4, Brc5, Brc6, Brc7, Brl⟩ := cb8 Br
    obtain ⟨Bpc0, Bpl⟩ := cb1 Bp
    go_wp2_with fail
    clear Brc0 Brc1 Brc2 Brc3 Brc4 Brc5 Brc6 Brc7 Bpc0 Brl Bpl
    refine (calls_ov (impl_RegionOk_eq (Sp.below (by repeat (first | exact bR | refine bO ?_ | refine bA ?_ | refine bS ?_ | refine bD ?_ | refine bN ?_))) (by omega) H2)).mono ?_
    rintro e w' ⟨rfl, x, rfl⟩
    obtain ⟨W5, hW⟩ : ∃ W5, W5 = ov W4 x := ⟨_, rfl⟩
    rw [← hW]
    have K : Below W4.heap.size W4 W5 := by rw [hW]; exact (by repeat (first | exact bR | refine bO ?_ | refine bA ?_ | refine bS ?_ | refine bD ?_ | refine bN ?_))
    clear hW
    replace T := T.trans (K.mono T.size)
    replace Br := box_below Br K
    replace Bp := box_below Bp K
    clear K Sr Sp
    have Sr := Rr.below (TV.trans (T.mono s0))
    have Sp := Rp.below (TV.trans (T.mono s0))
    obtain ⟨Brc0, Brc1, Brc2, Brc3, Brc4, Brc5, Brc6, Brc7, Brl⟩ := cb8 Br
    obtain ⟨Bpc0, Bpl⟩ := cb1 Bp
    go_wp2_with fail
    clear Brc0 Brc1 Brc2 Brc3 Brc4 Brc5 Brc6 Brc7 Bpc0 Brl Bpl
    refine (calls_ov (impl_within_eq kp.out lk.out (Sp.below (by repeat (first | exact bR | refine bO ?_ | refine bA ?_ | refine bS ?_ | refine bD ?_ | refine bN ?_))) (Sr.lr.below (by repeat (first | exact bR | refine bO ?_ | refine bA ?_ | refine bS ?_ | refine bD ?_ | refine bN ?_))) H3)).mono ?_
    rintro e w' ⟨rfl, x, rfl⟩
    obtain ⟨W6, hW⟩ : ∃ W6, W6 = ov W5 x := ⟨_, rfl⟩
    rw [← hW]
    have K : Below W5.heap.size W5 W6 := by rw [hW]; exact (by repeat (first | exact bR | refine bO ?_ | refine bA ?_ | refine bS ?_ | refine bD ?_ | refine bN ?_))
    clear hW
    replace T := T.trans (K.mono T.size)
    replace Br := box_below Br K
    replace Bp := box_below Bp K
    clear K Sr Sp
    have Sr := Rr.below (TV.trans (T.mono s0))
    have Sp := Rp.below (TV.trans (T.mono s0))
    obtain ⟨Brc0, Brc1, Brc2, Brc3, Brc4, Brc5, Brc6, Brc7, Brl⟩ := cb8 Br
    obtain ⟨Bpc0, Bpl⟩ := cb1 Bp
    go_wp2
    go_ret
    exact ⟨rfl, (by repeat (first | exact TV.trans (T.mono s0) | refine bO ?_ | refine bA ?_ | refine bS ?_ | refine bD ?_ | refine bN ?_))⟩
  | true =>
    obtain ⟨⟨q, t4⟩, h4⟩ : ∃ s, preM r p = s := ⟨_, rfl⟩
    have H4 := Lib.hid h4
    rw [h4] at hk
    cases t4 with
    | false =>
      obtain rfl : false = v := hk
      clear h4
      go_enter Tryz.func17, Tryz.ntmps17
      go_wp2_with fail
      obtain ⟨V, hV⟩ : ∃ V, ((w.alloc (.cells #[.slice Ar1 r.m.length cr1, .int .i64 r.q, .int .i64 r.bx, .int .i64 r.by_, .int .i64 r.lo, .int .i64 r.hi, .slice Ar2 r.ns.length cr2, .slice Ar3 r.ls.length cr3] 28)).alloc (.cells #[.slice Ap p.length cp] 26)) = V := ⟨_, rfl⟩
      have TV : Below w.heap.size w V := by rw [← hV]; exact (by repeat (first | exact bR | refine bO ?_ | refine bA ?_ | refine bS ?_ | refine bD ?_ | refine bN ?_))
      have X0 : V.heap[w.heap.size]? = some (.cells #[.slice Ar1 r.m.length cr1, .int .i64 r.q, .int .i64 r.bx, .int .i64 r.by_, .int .i64 r.lo, .int .i64 r.hi, .slice Ar2 r.ns.length cr2, .slice Ar3 r.ls.length cr3] 28 (0, 0)) := by rw [← hV]; exact ((heap_old_at (by first | (simp; done) | (simp <;> omega))).trans (heap_new_at (by first | (simp; done) | (simp <;> omega)) rfl))
      have X1 : V.heap[w.heap.size + 1]? = some (.cells #[.slice Ap p.length cp] 26 (0, 0)) := by rw [← hV]; exact (heap_new_at (by first | (simp; done) | (simp <;> omega)) rfl)
      rw [hV]
      clear hV
      have hbb1 : w.heap.size ≤ w.heap.size + 1 := by omega
      generalize w.heap.size + 1 = ba1 at X1 hbb1 ⊢
      obtain ⟨W0, hW⟩ : ∃ W0, W0 = V := ⟨_, rfl⟩
      rw [← hW]
      have T : Below V.heap.size V W0 := by rw [hW]; exact Below.refl _ _
      clear hW
      have Br := box_below (Lib.hid X0) T
      clear X0
      have Bp := box_below (Lib.hid X1) T
      clear X1
      have s0 : w.heap.size ≤ V.heap.size := TV.size
      obtain ⟨ba0, hba0⟩ : ∃ b, w.heap.size = b := ⟨_, rfl⟩
      rw [hba0] at Br
      try rw [hba0]
      have Sr := Rr.below (TV.trans (T.mono s0))
      have Sp := Rp.below (TV.trans (T.mono s0))
      refine (calls_ov (impl_RoomOk_eq (Sr.below (by repeat (first | exact bR | refine bO ?_ | refine bA ?_ | refine bS ?_ | refine bD ?_ | refine bN ?_))) hsr H1)).mono ?_
      rintro e w' ⟨rfl, x, rfl⟩
      obtain ⟨W7, hW⟩ : ∃ W7, W7 = ov W0 x := ⟨_, rfl⟩
      rw [← hW]
      have K : Below W0.heap.size W0 W7 := by rw [hW]; exact (by repeat (first | exact bR | refine bO ?_ | refine bA ?_ | refine bS ?_ | refine bD ?_ | refine bN ?_))
      clear hW
      replace T := T.trans (K.mono T.size)
      replace Br := box_below Br K
      replace Bp := box_below Bp K
      clear K Sr Sp
      have Sr := Rr.below (TV.trans (T.mono s0))
      have Sp := Rp.below (TV.trans (T.mono s0))
      obtain ⟨Brc0, Brc1, Brc2, Brc3, Brc4, Brc5, Brc6, Brc7, Brl⟩ := cb8 Br
      obtain ⟨Bpc0, Bpl⟩ := cb1 Bp
      go_wp2_with fail
      clear Brc0 Brc1 Brc2 Brc3 Brc4 Brc5 Brc6 Brc7 Bpc0 Brl Bpl
      refine (calls_ov (impl_RegionOk_eq (Sp.below (by repeat (first | exact bR | refine bO ?_ | refine bA ?_ | refine bS ?_ | refine bD ?_ | refine bN ?_))) (by omega) H2)).mono ?_
      rintro e w' ⟨rfl, x, rfl⟩
      obtain ⟨W8, hW⟩ : ∃ W8, W8 = ov W7 x := ⟨_, rfl⟩
      rw [← hW]
      have K : Below W7.heap.size W7 W8 := by rw [hW]; exact (by repeat (first | exact bR | refine bO ?_ | refine bA ?_ | refine bS ?_ | refine bD ?_ | refine bN ?_))
      clear hW
      replace T := T.trans (K.mono T.size)
      replace Br := box_below Br K
      replace Bp := box_below Bp K
      clear K Sr Sp
      have Sr := Rr.below (TV.trans (T.mono s0))
      have Sp := Rp.below (TV.trans (T.mono s0))
      obtain ⟨Brc0, Brc1, Brc2, Brc3, Brc4, Brc5, Brc6, Brc7, Brl⟩ := cb8 Br
      obtain ⟨Bpc0, Bpl⟩ := cb1 Bp
      go_wp2_with fail
      clear Brc0 Brc1 Brc2 Brc3 Brc4 Brc5 Brc6 Brc7 Bpc0 Brl Bpl
      refine (calls_ov (impl_within_eq kp.out lk.out (Sp.below (by repeat (first | exact bR | refine bO ?_ | refine bA ?_ | refine bS ?_ | refine bD ?_ | refine bN ?_))) (Sr.lr.below (by repeat (first | exact bR | refine bO ?_ | refine bA ?_ | refine bS ?_ | refine bD ?_ | refine bN ?_))) H3)).mono ?_
      rintro e w' ⟨rfl, x, rfl⟩
      obtain ⟨W9, hW⟩ : ∃ W9, W9 = ov W8 x := ⟨_, rfl⟩
      rw [← hW]
      have K : Below W8.heap.size W8 W9 := by rw [hW]; exact (by repeat (first | exact bR | refine bO ?_ | refine bA ?_ | refine bS ?_ | refine bD ?_ | refine bN ?_))
      clear hW
      replace T := T.trans (K.mono T.size)
      replace Br := box_below Br K
      replace Bp := box_below Bp K
      clear K Sr Sp
      have Sr := Rr.below (TV.trans (T.mono s0))
      have Sp := Rp.below (TV.trans (T.mono s0))
      obtain ⟨Brc0, Brc1, Brc2, Brc3, Brc4, Brc5, Brc6, Brc7, Brl⟩ := cb8 Br
      obtain ⟨Bpc0, Bpl⟩ := cb1 Bp
      go_wp2_with fail
      clear Brc0 Brc1 Brc2 Brc3 Brc4 Brc5 Brc6 Brc7 Bpc0 Brl Bpl
      refine (impl_pre_eq (Sr.below (by repeat (first | exact bR | refine bO ?_ | refine bA ?_ | refine bS ?_ | refine bD ?_ | refine bN ?_))) hsr (Sp.below (by repeat (first | exact bR | refine bO ?_ | refine bA ?_ | refine bS ?_ | refine bD ?_ | refine bN ?_))) HP.out kp.out H4).mono ?_
      rintro e W10 ⟨aq, dq, rfl, Xq, hb⟩
      have K : Below W9.heap.size W9 W10 := Below.trans (by repeat (first | exact bR | refine bO ?_ | refine bA ?_ | refine bS ?_ | refine bD ?_ | refine bN ?_)) (hb.mono (by first | exact Nat.le_refl _ | simp [ov_size]))
      replace Xq := Xq.weak (B' := V.heap.size) (by have := T.size; (try simp [ov_size]); omega)
      clear hb
      replace T := T.trans (K.mono T.size)
      replace Br := box_below Br K
      replace Bp := box_below Bp K
      clear K Sr Sp
      have Sr := Rr.below (TV.trans (T.mono s0))
      have Sp := Rp.below (TV.trans (T.mono s0))
      obtain ⟨Brc0, Brc1, Brc2, Brc3, Brc4, Brc5, Brc6, Brc7, Brl⟩ := cb8 Br
      obtain ⟨Bpc0, Bpl⟩ := cb1 Bp
      go_wp2
      go_ret
      exact ⟨rfl, (by repeat (first | exact TV.trans (T.mono s0) | refine bO ?_ | refine bA ?_ | refine bS ?_ | refine bD ?_ | refine bN ?_))⟩
    | true =>
      have kq := Lib.hid (preM_ok h4)
      have H5 : Hid (withinL p q = v) := Lib.hid hk
      clear h4 hk
      go_enter Tryz.func17, Tryz.ntmps17
      go_wp2_with fail
      obtain ⟨V, hV⟩ : ∃ V, ((w.alloc (.cells #[.slice Ar1 r.m.length cr1, .int .i64 r.q, .int .i64 r.bx, .int .i64 r.by_, .int .i64 r.lo, .int .i64 r.hi, .slice Ar2 r.ns.length cr2, .slice Ar3 r.ls.length cr3] 28)).alloc (.cells #[.slice Ap p.length cp] 26)) = V := ⟨_, rfl⟩
      have TV : Below w.heap.size w V := by rw [← hV]; exact (by repeat (first | exact bR | refine bO ?_ | refine bA ?_ | refine bS ?_ | refine bD ?_ | refine bN ?_))
      have X0 : V.heap[w.heap.size]? = some (.cells #[.slice Ar1 r.m.length cr1, .int .i64 r.q, .int .i64 r.bx, .int .i64 r.by_, .int .i64 r.lo, .int .i64 r.hi, .slice Ar2 r.ns.length cr2, .slice Ar3 r.ls.length cr3] 28 (0, 0)) := by rw [← hV]; exact ((heap_old_at (by first | (simp; done) | (simp <;> omega))).trans (heap_new_at (by first | (simp; done) | (simp <;> omega)) rfl))
      have X1 : V.heap[w.heap.size + 1]? = some (.cells #[.slice Ap p.length cp] 26 (0, 0)) := by rw [← hV]; exact (heap_new_at (by first | (simp; done) | (simp <;> omega)) rfl)
      rw [hV]
      clear hV
      have hbb1 : w.heap.size ≤ w.heap.size + 1 := by omega
      generalize w.heap.size + 1 = ba1 at X1 hbb1 ⊢
      obtain ⟨W0, hW⟩ : ∃ W0, W0 = V := ⟨_, rfl⟩
      rw [← hW]
      have T : Below V.heap.size V W0 := by rw [hW]; exact Below.refl _ _
      clear hW
      have Br := box_below (Lib.hid X0) T
      clear X0
      have Bp := box_below (Lib.hid X1) T
      clear X1
      have s0 : w.heap.size ≤ V.heap.size := TV.size
      obtain ⟨ba0, hba0⟩ : ∃ b, w.heap.size = b := ⟨_, rfl⟩
      rw [hba0] at Br
      try rw [hba0]
      have Sr := Rr.below (TV.trans (T.mono s0))
      have Sp := Rp.below (TV.trans (T.mono s0))
      refine (calls_ov (impl_RoomOk_eq (Sr.below (by repeat (first | exact bR | refine bO ?_ | refine bA ?_ | refine bS ?_ | refine bD ?_ | refine bN ?_))) hsr H1)).mono ?_
      rintro e w' ⟨rfl, x, rfl⟩
      obtain ⟨W11, hW⟩ : ∃ W11, W11 = ov W0 x := ⟨_, rfl⟩
      rw [← hW]
      have K : Below W0.heap.size W0 W11 := by rw [hW]; exact (by repeat (first | exact bR | refine bO ?_ | refine bA ?_ | refine bS ?_ | refine bD ?_ | refine bN ?_))
      clear hW
      replace T := T.trans (K.mono T.size)
      replace Br := box_below Br K
      replace Bp := box_below Bp K
      clear K Sr Sp
      have Sr := Rr.below (TV.trans (T.mono s0))
      have Sp := Rp.below (TV.trans (T.mono s0))
      obtain ⟨Brc0, Brc1, Brc2, Brc3, Brc4, Brc5, Brc6, Brc7, Brl⟩ := cb8 Br
      obtain ⟨Bpc0, Bpl⟩ := cb1 Bp
      go_wp2_with fail
      clear Brc0 Brc1 Brc2 Brc3 Brc4 Brc5 Brc6 Brc7 Bpc0 Brl Bpl
      refine (calls_ov (impl_RegionOk_eq (Sp.below (by repeat (first | exact bR | refine bO ?_ | refine bA ?_ | refine bS ?_ | refine bD ?_ | refine bN ?_))) (by omega) H2)).mono ?_
      rintro e w' ⟨rfl, x, rfl⟩
      obtain ⟨W12, hW⟩ : ∃ W12, W12 = ov W11 x := ⟨_, rfl⟩
      rw [← hW]
      have K : Below W11.heap.size W11 W12 := by rw [hW]; exact (by repeat (first | exact bR | refine bO ?_ | refine bA ?_ | refine bS ?_ | refine bD ?_ | refine bN ?_))
      clear hW
      replace T := T.trans (K.mono T.size)
      replace Br := box_below Br K
      replace Bp := box_below Bp K
      clear K Sr Sp
      have Sr := Rr.below (TV.trans (T.mono s0))
      have Sp := Rp.below (TV.trans (T.mono s0))
      obtain ⟨Brc0, Brc1, Brc2, Brc3, Brc4, Brc5, Brc6, Brc7, Brl⟩ := cb8 Br
      obtain ⟨Bpc0, Bpl⟩ := cb1 Bp
      go_wp2_with fail
      clear Brc0 Brc1 Brc2 Brc3 Brc4 Brc5 Brc6 Brc7 Bpc0 Brl Bpl
      refine (calls_ov (impl_within_eq kp.out lk.out (Sp.below (by repeat (first | exact bR | refine bO ?_ | refine bA ?_ | refine bS ?_ | refine bD ?_ | refine bN ?_))) (Sr.lr.below (by repeat (first | exact bR | refine bO ?_ | refine bA ?_ | refine bS ?_ | refine bD ?_ | refine bN ?_))) H3)).mono ?_
      rintro e w' ⟨rfl, x, rfl⟩
      obtain ⟨W13, hW⟩ : ∃ W13, W13 = ov W12 x := ⟨_, rfl⟩
      rw [← hW]
      have K : Below W12.heap.size W12 W13 := by rw [hW]; exact (by repeat (first | exact bR | refine bO ?_ | refine bA ?_ | refine bS ?_ | refine bD ?_ | refine bN ?_))
      clear hW
      replace T := T.trans (K.mono T.size)
      replace Br := box_below Br K
      replace Bp := box_below Bp K
      clear K Sr Sp
      have Sr := Rr.below (TV.trans (T.mono s0))
      have Sp := Rp.below (TV.trans (T.mono s0))
      obtain ⟨Brc0, Brc1, Brc2, Brc3, Brc4, Brc5, Brc6, Brc7, Brl⟩ := cb8 Br
      obtain ⟨Bpc0, Bpl⟩ := cb1 Bp
      go_wp2_with fail
      clear Brc0 Brc1 Brc2 Brc3 Brc4 Brc5 Brc6 Brc7 Bpc0 Brl Bpl
      refine (impl_pre_eq (Sr.below (by repeat (first | exact bR | refine bO ?_ | refine bA ?_ | refine bS ?_ | refine bD ?_ | refine bN ?_))) hsr (Sp.below (by repeat (first | exact bR | refine bO ?_ | refine bA ?_ | refine bS ?_ | refine bD ?_ | refine bN ?_))) HP.out kp.out H4).mono ?_
      rintro e W14 ⟨aq, dq, rfl, Xq, hb⟩
      have K : Below W13.heap.size W13 W14 := Below.trans (by repeat (first | exact bR | refine bO ?_ | refine bA ?_ | refine bS ?_ | refine bD ?_ | refine bN ?_)) (hb.mono (by first | exact Nat.le_refl _ | simp [ov_size]))
      replace Xq := Xq.weak (B' := V.heap.size) (by have := T.size; (try simp [ov_size]); omega)
      clear hb
      replace T := T.trans (K.mono T.size)
      replace Br := box_below Br K
      replace Bp := box_below Bp K
      clear K Sr Sp
      have Sr := Rr.below (TV.trans (T.mono s0))
      have Sp := Rp.below (TV.trans (T.mono s0))
      obtain ⟨Brc0, Brc1, Brc2, Brc3, Brc4, Brc5, Brc6, Brc7, Brl⟩ := cb8 Br
      obtain ⟨Bpc0, Bpl⟩ := cb1 Bp
      go_wp2_with (first | (go_at_call 53; (first | (with_reducible refine (calls_ov2 (impl_within_eq kp.out kq.out (Sp.below (by repeat (first | exact bR | refine bO ?_ | refine bA ?_ | refine bS ?_ | refine bD ?_ | refine bN ?_))) ((Xq.below (by repeat (first | exact bR | refine bO ?_ | refine bA ?_ | refine bS ?_ | refine bD ?_ | refine bN ?_))).r3) H5)).mono ?_) | refine (calls_ov (impl_within_eq kp.out kq.out (Sp.below (by repeat (first | exact bR | refine bO ?_ | refine bA ?_ | refine bS ?_ | refine bD ?_ | refine bN ?_))) ((Xq.below (by repeat (first | exact bR | refine bO ?_ | refine bA ?_ | refine bS ?_ | refine bD ?_ | refine bN ?_))).r3) H5)).mono ?_); rintro e w' ⟨rfl, x, rfl⟩))
      go_ret
      exact ⟨rfl, (by repeat (first | exact TV.trans (T.mono s0) | refine bO ?_ | refine bA ?_ | refine bS ?_ | refine bD ?_ | refine bN ?_))⟩

end Go.Proofs.YtabmfaamadbefaaGreat