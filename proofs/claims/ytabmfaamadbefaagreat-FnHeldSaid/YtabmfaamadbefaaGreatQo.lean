/- Contracts of robustOf and AdmitAt, of the program and of the reference. Condition: rows are short. -/
import Derived.Test.YtabmfaamadbefaaGreatQn
import Derived.Test.YtabmfaamadbefaaGreatWn
set_option linter.unusedVariables false
set_option linter.unusedSimpArgs false
set_option linter.unusedSectionVars false
namespace Go.Proofs.YtabmfaamadbefaaGreat
open Go.RowKit
def robOf (r : RoomV) (p : List H3) : List H3 × Bool := if p = [] then ([], false) else ((robustR r p).1, (robustR r p).2 && !decide ((robustR r p).1.length = 0))
theorem robustR_void {r : RoomV} {e : List H3} {v : Bool} (h : robustR r [] = (e, v)) : e = [] := by
  unfold robustR at h
  split at h
  · unfold movedF at h; rw [if_pos rfl] at h; injection h with h _; exact h.symm
  · injection h with h _; exact h.symm
theorem admit_bad {r : RoomV} {p : List H3} {x y d : Int} (h : ¬ (regionOk p = true ∧ spotOk x y d = true ∧ d ≤ 100000)) : admitR r p x y d = (((0, 0), (0, 0)), false) := by unfold admitR; rw [if_neg h]
theorem admit_good {r : RoomV} {p : List H3} {x y d : Int} (h : regionOk p = true ∧ spotOk x y d = true ∧ d ≤ 100000) : admitR r p x y d = admOf r (robustR r p) x y d := by unfold admitR; rw [if_pos h]
theorem robOf_no {r : RoomV} {p : List H3} {e : List H3} (h : robOf r p = (e, false)) (x y d : Int) : admitR r p x y d = (((0, 0), (0, 0)), false) := by
  unfold admitR
  split
  · obtain ⟨⟨q, v⟩, hq⟩ : ∃ s, robustR r p = s := ⟨_, rfl⟩
    unfold admOf
    rw [hq, if_neg]
    rintro ⟨hv, hne⟩
    unfold robOf at h
    split at h
    · rename_i hp
      subst hp
      exact hne (robustR_void hq)
    · rw [hq] at h
      have h2 := (Prod.mk.injEq _ _ _ _ ▸ h).2
      simp only at hv h2 hne
      rw [hv] at h2
      simp at h2
      exact hne h2
  · rfl
theorem robOf_yes {r : RoomV} {p : List H3} {e : List H3} (h : robOf r p = (e, true)) : robustR r p = (e, true) ∧ e ≠ [] := by
  unfold robOf at h
  split at h
  · simp at h
  · obtain ⟨⟨q, v⟩, hq⟩ : ∃ s, robustR r p = s := ⟨_, rfl⟩
    rw [hq] at h ⊢
    simp only [Prod.mk.injEq, Bool.and_eq_true, Bool.not_eq_true', decide_eq_false_iff_not] at h
    obtain ⟨rfl, hv, hl⟩ := h
    exact ⟨by rw [hv], fun e => hl (by rw [e]; rfl)⟩
theorem robustR_reg2 {r : RoomV} {p e : List H3} (h : robustR r p = (e, true)) : regionOk p = true := by
  unfold robustR at h
  split at h
  · rename_i hc; exact hc.2
  · simp at h
theorem admOf_yes {r : RoomV} {e : List H3} (h : e ≠ []) (x y d : Int) : admOf r (e, true) x y d = admV r e x y d := by unfold admOf; rw [if_pos ⟨rfl, h⟩]
theorem admOf_no {r : RoomV} {e : List H3} {v : Bool} (h : v = false ∨ e = []) (x y d : Int) : admOf r (e, v) x y d = (((0, 0), (0, 0)), false) := by
  unfold admOf
  rw [if_neg]
  rintro ⟨h1, h2⟩
  rcases h with h | h
  · rw [h] at h1; simp at h1
  · exact h2 h
set_option maxRecDepth 100000 in
theorem impl_admit_big {r : RoomV} {Ar1 Ar2 Ar3 : Option Addr} {cr1 cr2 cr3 : Nat} {e : List H3} {Ae : Option Addr} {ce : Nat} {x1 y1 d1 : Int} {w : World} (Rr : RM w r Ar1 Ar2 cr2 Ar3 cr3) (hsr : r.Short) (Re : R3 44 w Ae ce e) (hd : 100000 < d1) :
    Calls Tryz.prog 68 #[.agg #[.slice Ar1 r.m.length cr1, .int .i64 r.q, .int .i64 r.bx, .int .i64 r.by_, .int .i64 r.lo, .int .i64 r.hi, .slice Ar2 r.ns.length cr2, .slice Ar3 r.ls.length cr3], .agg #[.slice Ae e.length ce], .agg #[.int .i64 x1, .int .i64 y1, .int .i64 d1]] w fun e' w' => e' = .returned (.tuple #[.agg #[.int .i64 0, .int .i64 0, .int .i64 0, .int .i64 0], .bool false]) ∧ Below w.heap.size w w' := by
  go_enter Tryz.func68, Tryz.ntmps68
  go_wp2
  refine bodyPost_ret (v := .tuple #[.agg #[.int .i64 0, .int .i64 0, .int .i64 0, .int .i64 0], .bool false]) (by simp [results, Tryz.results68, go_sem]) rfl ⟨rfl, (by repeat (first | exact bR | refine bO ?_ | refine bA ?_ | refine bS ?_ | refine bD ?_ | refine bN ?_))⟩
set_option maxRecDepth 100000 in
set_option maxHeartbeats 8000000 in
theorem robustOf_eq {r : RoomV} {Ar1 Ar2 Ar3 : Option Addr} {cr1 cr2 cr3 : Nat} {p : List H3} {Ap : Option Addr} {cp : Nat} {w : World} {out : List H3} {ok : Bool} (Rr : RM w r Ar1 Ar2 cr2 Ar3 cr3) (hsr : r.Short) (Rp : R3 44 w Ap cp p) (hlp : p.length ≤ 1000000000) (hr : Hid (robOf r p = (out, ok))) :
    Calls Tryz.prog 67 #[.agg #[.slice Ar1 r.m.length cr1, .int .i64 r.q, .int .i64 r.bx, .int .i64 r.by_, .int .i64 r.lo, .int .i64 r.hi, .slice Ar2 r.ns.length cr2, .slice Ar3 r.ls.length cr3], .agg #[.slice Ap p.length cp]] w (RegPost w out ok) := by
  have hk := hr.out
  unfold robOf at hk
  clear hr
  obtain ⟨t0, h0⟩ : ∃ t, decide (p.length = 0) = t := ⟨_, rfl⟩
  have H0 := Lib.hid h0
  cases t0 with
  | true =>
    rw [if_pos (List.length_eq_zero_iff.1 (by simpa using h0)), Prod.mk.injEq] at hk
    obtain ⟨rfl, rfl⟩ := hk
    clear h0
    go_enter Tryz.func67, Tryz.ntmps67
    go_wp2_with fail
    obtain ⟨V, hV⟩ : ∃ V, (((w.alloc (.cells #[.slice Ar1 r.m.length cr1, .int .i64 r.q, .int .i64 r.bx, .int .i64 r.by_, .int .i64 r.lo, .int .i64 r.hi, .slice Ar2 r.ns.length cr2, .slice Ar3 r.ls.length cr3] 28)).alloc (.cells #[.slice Ap p.length cp] 26)).alloc (.cells #[.slice none 0 0] 26)) = V := ⟨_, rfl⟩
    have TV : Below w.heap.size w V := by rw [← hV]; exact (by repeat (first | exact bR | refine bO ?_ | refine bA ?_ | refine bS ?_ | refine bD ?_ | refine bN ?_))
    have X0 : V.heap[w.heap.size]? = some (.cells #[.slice Ar1 r.m.length cr1, .int .i64 r.q, .int .i64 r.bx, .int .i64 r.by_, .int .i64 r.lo, .int .i64 r.hi, .slice Ar2 r.ns.length cr2, .slice Ar3 r.ls.length cr3] 28 (0, 0)) := by rw [← hV]; exact ((heap_old_at (by first | (simp; done) | (simp <;> omega))).trans ((heap_old_at (by first | (simp; done) | (simp <;> omega))).trans (heap_new_at (by first | (simp; done) | (simp <;> omega)) rfl)))
    have X1 : V.heap[w.heap.size + 1]? = some (.cells #[.slice Ap p.length cp] 26 (0, 0)) := by rw [← hV]; exact ((heap_old_at (by first | (simp; done) | (simp <;> omega))).trans (heap_new_at (by first | (simp; done) | (simp <;> omega)) rfl))
    have X2 : V.heap[w.heap.size + 1 + 1]? = some (.cells #[.slice none 0 0] 26 (0, 0)) := by rw [← hV]; exact (heap_new_at (by first | (simp; done) | (simp <;> omega)) rfl)
    rw [hV]
    clear hV
    have hbb2 : w.heap.size ≤ w.heap.size + 1 + 1 := by omega
    generalize w.heap.size + 1 + 1 = ba2 at X2 hbb2 ⊢
    have hbb1 : w.heap.size ≤ w.heap.size + 1 := by omega
    generalize w.heap.size + 1 = ba1 at X1 hbb1 ⊢
    obtain ⟨W0, hW⟩ : ∃ W0, W0 = V := ⟨_, rfl⟩
    rw [← hW]
    have T : Below V.heap.size V W0 := by rw [hW]; exact Below.refl _ _
    clear hW
    have Br := box_below (Lib.hid X0) T
    clear X0
    have Bp := box_below (Lib.hid X1) T
    clear X1
    have Bo := box_below (Lib.hid X2) T
    clear X2
    have s0 : w.heap.size ≤ V.heap.size := TV.size
    obtain ⟨ba0, hba0⟩ : ∃ b, w.heap.size = b := ⟨_, rfl⟩
    rw [hba0] at Br
    try rw [hba0]
    have Sr := Rr.below (TV.trans (T.mono s0))
    have Sp := Rp.below (TV.trans (T.mono s0))
    refine (calls_ov (IsVoid_eq H0)).mono ?_
    rintro e w' ⟨rfl, x, rfl⟩
    obtain ⟨W1, hW⟩ : ∃ W1, W1 = ov W0 x := ⟨_, rfl⟩
    rw [← hW]
    have K : Below W0.heap.size W0 W1 := by rw [hW]; exact (by repeat (first | exact bR | refine bO ?_ | refine bA ?_ | refine bS ?_ | refine bD ?_ | refine bN ?_))
    clear hW
    replace T := T.trans (K.mono T.size)
    replace Br := box_below Br K
    replace Bp := box_below Bp K
    replace Bo := box_below Bo K
    clear K Sr Sp
    have Sr := Rr.below (TV.trans (T.mono s0))
    have Sp := Rp.below (TV.trans (T.mono s0))
    obtain ⟨Brc0, Brc1, Brc2, Brc3, Brc4, Brc5, Brc6, Brc7, Brl⟩ := cb8 Br
    obtain ⟨Bpc0, Bpl⟩ := cb1 Bp
    obtain ⟨Boc0, Bol⟩ := cb1 Bo
    have Bof0 := frozen_blk (j := 0) Bo.out
    go_wp2
    refine bodyPost_ret (v := .tuple #[.agg #[.slice none 0 0], .bool false]) (by simp [results, Tryz.results67, go_sem, Boc0, Bol]) rfl ⟨none, 0, rfl, RB.nil _ _ _, ?_⟩
    exact (by repeat (first | exact TV.trans (T.mono s0) | refine bO ?_ | refine bA ?_ | refine bS ?_ | refine bD ?_ | refine bN ?_))
  | false =>
    rw [if_neg (by intro e; rw [e] at h0; simp at h0), Prod.mk.injEq] at hk
    obtain ⟨⟨e, t1⟩, h1⟩ : ∃ s, robustR r p = s := ⟨_, rfl⟩
    obtain ⟨t2, h2⟩ : ∃ t, decide (e.length = 0) = t := ⟨_, rfl⟩
    rw [h1, h2] at hk
    obtain ⟨rfl, rfl⟩ := hk
    have H1 := Lib.hid h1
    have H2 := Lib.hid h2
    clear h0 h1 h2
    cases t1
    all_goals
      go_enter Tryz.func67, Tryz.ntmps67
      go_wp2_with fail
      obtain ⟨V, hV⟩ : ∃ V, (((w.alloc (.cells #[.slice Ar1 r.m.length cr1, .int .i64 r.q, .int .i64 r.bx, .int .i64 r.by_, .int .i64 r.lo, .int .i64 r.hi, .slice Ar2 r.ns.length cr2, .slice Ar3 r.ls.length cr3] 28)).alloc (.cells #[.slice Ap p.length cp] 26)).alloc (.cells #[.slice none 0 0] 26)) = V := ⟨_, rfl⟩
      have TV : Below w.heap.size w V := by rw [← hV]; exact (by repeat (first | exact bR | refine bO ?_ | refine bA ?_ | refine bS ?_ | refine bD ?_ | refine bN ?_))
      have X0 : V.heap[w.heap.size]? = some (.cells #[.slice Ar1 r.m.length cr1, .int .i64 r.q, .int .i64 r.bx, .int .i64 r.by_, .int .i64 r.lo, .int .i64 r.hi, .slice Ar2 r.ns.length cr2, .slice Ar3 r.ls.length cr3] 28 (0, 0)) := by rw [← hV]; exact ((heap_old_at (by first | (simp; done) | (simp <;> omega))).trans ((heap_old_at (by first | (simp; done) | (simp <;> omega))).trans (heap_new_at (by first | (simp; done) | (simp <;> omega)) rfl)))
      have X1 : V.heap[w.heap.size + 1]? = some (.cells #[.slice Ap p.length cp] 26 (0, 0)) := by rw [← hV]; exact ((heap_old_at (by first | (simp; done) | (simp <;> omega))).trans (heap_new_at (by first | (simp; done) | (simp <;> omega)) rfl))
      have X2 : V.heap[w.heap.size + 1 + 1]? = some (.cells #[.slice none 0 0] 26 (0, 0)) := by rw [← hV]; exact (heap_new_at (by first | (simp; done) | (simp <;> omega)) rfl)
      rw [hV]
      clear hV
      have hbb2 : w.heap.size ≤ w.heap.size + 1 + 1 := by omega
      generalize w.heap.size + 1 + 1 = ba2 at X2 hbb2 ⊢
      have hbb1 : w.heap.size ≤ w.heap.size + 1 := by omega
      generalize w.heap.size + 1 = ba1 at X1 hbb1 ⊢
      obtain ⟨W0, hW⟩ : ∃ W0, W0 = V := ⟨_, rfl⟩
      rw [← hW]
      have T : Below V.heap.size V W0 := by rw [hW]; exact Below.refl _ _
      clear hW
      have Br := box_below (Lib.hid X0) T
      clear X0
      have Bp := box_below (Lib.hid X1) T
      clear X1
      have Bo := box_below (Lib.hid X2) T
      clear X2
      have s0 : w.heap.size ≤ V.heap.size := TV.size
      obtain ⟨ba0, hba0⟩ : ∃ b, w.heap.size = b := ⟨_, rfl⟩
      rw [hba0] at Br
      try rw [hba0]
      have Sr := Rr.below (TV.trans (T.mono s0))
      have Sp := Rp.below (TV.trans (T.mono s0))
      refine (calls_ov (IsVoid_eq H0)).mono ?_
      rintro e w' ⟨rfl, x, rfl⟩
      obtain ⟨W2, hW⟩ : ∃ W2, W2 = ov W0 x := ⟨_, rfl⟩
      rw [← hW]
      have K : Below W0.heap.size W0 W2 := by rw [hW]; exact (by repeat (first | exact bR | refine bO ?_ | refine bA ?_ | refine bS ?_ | refine bD ?_ | refine bN ?_))
      clear hW
      replace T := T.trans (K.mono T.size)
      replace Br := box_below Br K
      replace Bp := box_below Bp K
      replace Bo := box_below Bo K
      clear K Sr Sp
      have Sr := Rr.below (TV.trans (T.mono s0))
      have Sp := Rp.below (TV.trans (T.mono s0))
      obtain ⟨Brc0, Brc1, Brc2, Brc3, Brc4, Brc5, Brc6, Brc7, Brl⟩ := cb8 Br
      obtain ⟨Bpc0, Bpl⟩ := cb1 Bp
      obtain ⟨Boc0, Bol⟩ := cb1 Bo
      have Bof0 := frozen_blk (j := 0) Bo.out
      go_wp2_with fail
      clear Brc0 Brc1 Brc2 Brc3 Brc4 Brc5 Brc6 Brc7 Bpc0 Boc0 Brl Bpl Bol
      clear Bof0
      refine (impl_RobustPart_eq (Sr.below (by repeat (first | exact bR | refine bO ?_ | refine bA ?_ | refine bS ?_ | refine bD ?_ | refine bN ?_))) hsr (Sp.below (by repeat (first | exact bR | refine bO ?_ | refine bA ?_ | refine bS ?_ | refine bD ?_ | refine bN ?_))) hlp H1).mono ?_
      rintro e W3 ⟨ae, de, rfl, Xe, hb⟩
      have K : Below W2.heap.size W2 W3 := Below.trans (by repeat (first | exact bR | refine bO ?_ | refine bA ?_ | refine bS ?_ | refine bD ?_ | refine bN ?_)) (hb.mono (by first | exact Nat.le_refl _ | simp [ov_size]))
      replace Xe := Xe.weak (B' := V.heap.size) (by have := T.size; (try simp [ov_size]); omega)
      clear hb
      replace T := T.trans (K.mono T.size)
      replace Br := box_below Br K
      replace Bp := box_below Bp K
      replace Bo := box_below Bo K
      clear K Sr Sp
      have Sr := Rr.below (TV.trans (T.mono s0))
      have Sp := Rp.below (TV.trans (T.mono s0))
      obtain ⟨Brc0, Brc1, Brc2, Brc3, Brc4, Brc5, Brc6, Brc7, Brl⟩ := cb8 Br
      obtain ⟨Bpc0, Bpl⟩ := cb1 Bp
      obtain ⟨Boc0, Bol⟩ := cb1 Bo
      have Bof0 := frozen_blk (j := 0) Bo.out
      go_wp2_with fail
      clear Brc0 Brc1 Brc2 Brc3 Brc4 Brc5 Brc6 Brc7 Bpc0 Boc0 Brl Bpl Bol
      clear Bof0
      obtain ⟨be, hbx⟩ : ∃ b, b = W3.heap.size := ⟨_, rfl⟩
      rw [← hbx]
      obtain ⟨W4, hW⟩ : ∃ W, W = W3.alloc (.cells #[.slice ae e.length de] 26) := ⟨_, rfl⟩
      rw [← hW]
      have K : Below W3.heap.size W3 W4 := by rw [hW]; exact (by repeat (first | exact bR | refine bO ?_ | refine bA ?_ | refine bS ?_ | refine bD ?_ | refine bN ?_))
      have Be := Lib.hid (show W4.heap[be]? = some (.cells #[.slice ae e.length de] 26 (0, 0)) by rw [hW, hbx]; exact heap_alloc_new _ _)
      clear hW hbx
      replace T := T.trans (K.mono T.size)
      replace Br := box_below Br K
      replace Bp := box_below Bp K
      replace Bo := box_below Bo K
      replace Xe := Xe.below K
      clear K Sr Sp
      have Sr := Rr.below (TV.trans (T.mono s0))
      have Sp := Rp.below (TV.trans (T.mono s0))
      obtain ⟨Brc0, Brc1, Brc2, Brc3, Brc4, Brc5, Brc6, Brc7, Brl⟩ := cb8 Br
      obtain ⟨Bpc0, Bpl⟩ := cb1 Bp
      obtain ⟨Boc0, Bol⟩ := cb1 Bo
      obtain ⟨Bec0, Bel⟩ := cb1 Be
      have Bof0 := frozen_blk (j := 0) Bo.out
      go_region_with (first | (go_at_call 20; (first | (with_reducible refine (calls_ov2 (IsVoid_eq H2)).mono ?_) | refine (calls_ov (IsVoid_eq H2)).mono ?_); rintro e w' ⟨rfl, x, rfl⟩))
      all_goals
        go_wp2
        refine bodyPost_ret (v := .tuple #[.agg #[.slice ae e.length de], .bool _]) (by simp [results, Tryz.results67, go_sem, Boc0, Bol]) rfl ⟨ae, de, rfl, RB.weak (by exact RB.below (RB.set_box Xe Bo.out (by decide)) (by repeat (first | exact bR | refine bO ?_ | refine bA ?_ | refine bS ?_ | refine bD ?_ | refine bN ?_))) s0, ?_⟩
        exact (by repeat (first | exact TV.trans (T.mono s0) | refine bO ?_ | refine bA ?_ | refine bS ?_ | refine bD ?_ | refine bN ?_))

set_option maxRecDepth 100000 in
set_option maxHeartbeats 8000000 in
theorem impl_AdmitAt_eq {r : RoomV} {Ar1 Ar2 Ar3 : Option Addr} {cr1 cr2 cr3 : Nat} {p : List H3} {Ap : Option Addr} {cp : Nat} {x1 y1 d1 : Int} {w : World} {l1 l2 m1 m2 : Int} {ok : Bool} (Rr : RM w r Ar1 Ar2 cr2 Ar3 cr3) (hsr : r.Short) (Rp : R3 44 w Ap cp p) (hlp : p.length ≤ 1000000000) (hS : SpotB x1 y1 d1) (hr : Hid (admitR r p x1 y1 d1 = (((l1, l2), (m1, m2)), ok))) :
    Calls Tryz.prog 29 #[.agg #[.slice Ar1 r.m.length cr1, .int .i64 r.q, .int .i64 r.bx, .int .i64 r.by_, .int .i64 r.lo, .int .i64 r.hi, .slice Ar2 r.ns.length cr2, .slice Ar3 r.ls.length cr3], .agg #[.slice Ap p.length cp], .agg #[.int .i64 x1, .int .i64 y1, .int .i64 d1]] w (fun e' w' => e' = .returned (.tuple #[.agg #[.int .i64 l1, .int .i64 l2, .int .i64 m1, .int .i64 m2], .bool ok]) ∧ Below w.heap.size w w') := by
  have hk := hr.out
  clear hr
  obtain ⟨t2, h2⟩ : ∃ t, spotOk x1 y1 d1 = t := ⟨_, rfl⟩
  have H2 := Lib.hid h2
  obtain ⟨⟨e, t1⟩, h1⟩ : ∃ s, robOf r p = s := ⟨_, rfl⟩
  have H1 := Lib.hid h1
  cases t1 with
  | false =>
    rw [robOf_no h1] at hk
    simp only [Prod.mk.injEq] at hk
    obtain ⟨⟨⟨rfl, rfl⟩, rfl, rfl⟩, rfl⟩ := hk
    clear h1 h2
    go_enter Tryz.func29, Tryz.ntmps29
    go_wp2_with fail
    obtain ⟨V, hV⟩ : ∃ V, ((((w.alloc (.cells #[.slice Ar1 r.m.length cr1, .int .i64 r.q, .int .i64 r.bx, .int .i64 r.by_, .int .i64 r.lo, .int .i64 r.hi, .slice Ar2 r.ns.length cr2, .slice Ar3 r.ls.length cr3] 28)).alloc (.cells #[.slice Ap p.length cp] 26)).alloc (.cells #[.int .i64 x1, .int .i64 y1, .int .i64 d1] 52)).alloc (.cells #[.int .i64 0, .int .i64 0, .int .i64 0, .int .i64 0] 61)) = V := ⟨_, rfl⟩
    have TV : Below w.heap.size w V := by rw [← hV]; exact (by repeat (first | exact bR | refine bO ?_ | refine bA ?_ | refine bS ?_ | refine bD ?_ | refine bN ?_))
    have X0 : V.heap[w.heap.size]? = some (.cells #[.slice Ar1 r.m.length cr1, .int .i64 r.q, .int .i64 r.bx, .int .i64 r.by_, .int .i64 r.lo, .int .i64 r.hi, .slice Ar2 r.ns.length cr2, .slice Ar3 r.ls.length cr3] 28 (0, 0)) := by rw [← hV]; exact ((heap_old_at (by first | (simp; done) | (simp <;> omega))).trans ((heap_old_at (by first | (simp; done) | (simp <;> omega))).trans ((heap_old_at (by first | (simp; done) | (simp <;> omega))).trans (heap_new_at (by first | (simp; done) | (simp <;> omega)) rfl))))
    have X1 : V.heap[w.heap.size + 1]? = some (.cells #[.slice Ap p.length cp] 26 (0, 0)) := by rw [← hV]; exact ((heap_old_at (by first | (simp; done) | (simp <;> omega))).trans ((heap_old_at (by first | (simp; done) | (simp <;> omega))).trans (heap_new_at (by first | (simp; done) | (simp <;> omega)) rfl)))
    have X2 : V.heap[w.heap.size + 1 + 1]? = some (.cells #[.int .i64 x1, .int .i64 y1, .int .i64 d1] 52 (0, 0)) := by rw [← hV]; exact ((heap_old_at (by first | (simp; done) | (simp <;> omega))).trans (heap_new_at (by first | (simp; done) | (simp <;> omega)) rfl))
    have X3 : V.heap[w.heap.size + 1 + 1 + 1]? = some (.cells #[.int .i64 0, .int .i64 0, .int .i64 0, .int .i64 0] 61 (0, 0)) := by rw [← hV]; exact (heap_new_at (by first | (simp; done) | (simp <;> omega)) rfl)
    rw [hV]
    clear hV
    have hbb3 : w.heap.size ≤ w.heap.size + 1 + 1 + 1 := by omega
    generalize w.heap.size + 1 + 1 + 1 = ba3 at X3 hbb3 ⊢
    have hbb2 : w.heap.size ≤ w.heap.size + 1 + 1 := by omega
    generalize w.heap.size + 1 + 1 = ba2 at X2 hbb2 ⊢
    have hbb1 : w.heap.size ≤ w.heap.size + 1 := by omega
    generalize w.heap.size + 1 = ba1 at X1 hbb1 ⊢
    obtain ⟨W0, hW⟩ : ∃ W0, W0 = V := ⟨_, rfl⟩
    rw [← hW]
    have T : Below V.heap.size V W0 := by rw [hW]; exact Below.refl _ _
    clear hW
    have Br := box_below (Lib.hid X0) T
    clear X0
    have Bp := box_below (Lib.hid X1) T
    clear X1
    have Bs := box_below (Lib.hid X2) T
    clear X2
    have Bo := box_below (Lib.hid X3) T
    clear X3
    have s0 : w.heap.size ≤ V.heap.size := TV.size
    obtain ⟨ba0, hba0⟩ : ∃ b, w.heap.size = b := ⟨_, rfl⟩
    rw [hba0] at Br
    try rw [hba0]
    have Sr := Rr.below (TV.trans (T.mono s0))
    have Sp := Rp.below (TV.trans (T.mono s0))
    refine (robustOf_eq (Sr.below (by repeat (first | exact bR | refine bO ?_ | refine bA ?_ | refine bS ?_ | refine bD ?_ | refine bN ?_))) hsr (Sp.below (by repeat (first | exact bR | refine bO ?_ | refine bA ?_ | refine bS ?_ | refine bD ?_ | refine bN ?_))) hlp H1).mono ?_
    rintro e W1 ⟨ae, de, rfl, Xe, hb⟩
    have K : Below W0.heap.size W0 W1 := Below.trans (by repeat (first | exact bR | refine bO ?_ | refine bA ?_ | refine bS ?_ | refine bD ?_ | refine bN ?_)) (hb.mono (by first | exact Nat.le_refl _ | simp [ov_size]))
    replace Xe := Xe.weak (B' := V.heap.size) (by have := T.size; (try simp [ov_size]); omega)
    clear hb
    replace T := T.trans (K.mono T.size)
    replace Br := box_below Br K
    replace Bp := box_below Bp K
    replace Bs := box_below Bs K
    replace Bo := box_below Bo K
    clear K Sr Sp
    have Sr := Rr.below (TV.trans (T.mono s0))
    have Sp := Rp.below (TV.trans (T.mono s0))
    obtain ⟨Brc0, Brc1, Brc2, Brc3, Brc4, Brc5, Brc6, Brc7, Brl⟩ := cb8 Br
    obtain ⟨Bpc0, Bpl⟩ := cb1 Bp
    obtain ⟨Bsc0, Bsc1, Bsc2, Bsl⟩ := cb3 Bs
    obtain ⟨Boc0, Boc1, Boc2, Boc3, Bol⟩ := cb4 Bo
    have Bof0 := frozen_blk (j := 0) Bo.out
    have Bof1 := frozen_blk (j := 1) Bo.out
    have Bof2 := frozen_blk (j := 2) Bo.out
    have Bof3 := frozen_blk (j := 3) Bo.out
    go_wp2
    refine bodyPost_ret (v := .tuple #[.agg #[.int .i64 0, .int .i64 0, .int .i64 0, .int .i64 0], .bool false]) (by simp [results, Tryz.results29, go_sem, Boc0, Boc1, Boc2, Boc3, Bol]) rfl ⟨rfl, ?_⟩
    exact (by repeat (first | exact TV.trans (T.mono s0) | refine bO ?_ | refine bA ?_ | refine bS ?_ | refine bD ?_ | refine bN ?_))
  | true =>
    obtain ⟨hro, hne⟩ := robOf_yes h1
    have ke := Lib.hid (robustR_reg hro).1
    have KP := Lib.hid (robustR_reg hro).2
    have le := (region_good ke.out).2
    by_cases hgood : t2 = true ∧ d1 ≤ 100000
    case neg =>
      rw [admit_bad (fun e => hgood ⟨h2.symm.trans e.2.1, e.2.2⟩)] at hk
      simp only [Prod.mk.injEq] at hk
      obtain ⟨⟨⟨rfl, rfl⟩, rfl, rfl⟩, rfl⟩ := hk
      have hc : t2 = false ∨ (t2 = true ∧ 100000 < d1) := by
        by_cases hd : d1 ≤ 100000
        · cases t2
          · exact .inl rfl
          · exact absurd ⟨rfl, hd⟩ hgood
        · cases t2
          · exact .inl rfl
          · exact .inr ⟨rfl, by omega⟩
      clear h1 h2 hgood hro
      rcases hc with rfl | ⟨rfl, hd⟩
      · skip
        go_enter Tryz.func29, Tryz.ntmps29
        go_wp2_with fail
        obtain ⟨V, hV⟩ : ∃ V, ((((w.alloc (.cells #[.slice Ar1 r.m.length cr1, .int .i64 r.q, .int .i64 r.bx, .int .i64 r.by_, .int .i64 r.lo, .int .i64 r.hi, .slice Ar2 r.ns.length cr2, .slice Ar3 r.ls.length cr3] 28)).alloc (.cells #[.slice Ap p.length cp] 26)).alloc (.cells #[.int .i64 x1, .int .i64 y1, .int .i64 d1] 52)).alloc (.cells #[.int .i64 0, .int .i64 0, .int .i64 0, .int .i64 0] 61)) = V := ⟨_, rfl⟩
        have TV : Below w.heap.size w V := by rw [← hV]; exact (by repeat (first | exact bR | refine bO ?_ | refine bA ?_ | refine bS ?_ | refine bD ?_ | refine bN ?_))
        have X0 : V.heap[w.heap.size]? = some (.cells #[.slice Ar1 r.m.length cr1, .int .i64 r.q, .int .i64 r.bx, .int .i64 r.by_, .int .i64 r.lo, .int .i64 r.hi, .slice Ar2 r.ns.length cr2, .slice Ar3 r.ls.length cr3] 28 (0, 0)) := by rw [← hV]; exact ((heap_old_at (by first | (simp; done) | (simp <;> omega))).trans ((heap_old_at (by first | (simp; done) | (simp <;> omega))).trans ((heap_old_at (by first | (simp; done) | (simp <;> omega))).trans (heap_new_at (by first | (simp; done) | (simp <;> omega)) rfl))))
        have X1 : V.heap[w.heap.size + 1]? = some (.cells #[.slice Ap p.length cp] 26 (0, 0)) := by rw [← hV]; exact ((heap_old_at (by first | (simp; done) | (simp <;> omega))).trans ((heap_old_at (by first | (simp; done) | (simp <;> omega))).trans (heap_new_at (by first | (simp; done) | (simp <;> omega)) rfl)))
        have X2 : V.heap[w.heap.size + 1 + 1]? = some (.cells #[.int .i64 x1, .int .i64 y1, .int .i64 d1] 52 (0, 0)) := by rw [← hV]; exact ((heap_old_at (by first | (simp; done) | (simp <;> omega))).trans (heap_new_at (by first | (simp; done) | (simp <;> omega)) rfl))
        have X3 : V.heap[w.heap.size + 1 + 1 + 1]? = some (.cells #[.int .i64 0, .int .i64 0, .int .i64 0, .int .i64 0] 61 (0, 0)) := by rw [← hV]; exact (heap_new_at (by first | (simp; done) | (simp <;> omega)) rfl)
        rw [hV]
        clear hV
        have hbb3 : w.heap.size ≤ w.heap.size + 1 + 1 + 1 := by omega
        generalize w.heap.size + 1 + 1 + 1 = ba3 at X3 hbb3 ⊢
        have hbb2 : w.heap.size ≤ w.heap.size + 1 + 1 := by omega
        generalize w.heap.size + 1 + 1 = ba2 at X2 hbb2 ⊢
        have hbb1 : w.heap.size ≤ w.heap.size + 1 := by omega
        generalize w.heap.size + 1 = ba1 at X1 hbb1 ⊢
        obtain ⟨W0, hW⟩ : ∃ W0, W0 = V := ⟨_, rfl⟩
        rw [← hW]
        have T : Below V.heap.size V W0 := by rw [hW]; exact Below.refl _ _
        clear hW
        have Br := box_below (Lib.hid X0) T
        clear X0
        have Bp := box_below (Lib.hid X1) T
        clear X1
        have Bs := box_below (Lib.hid X2) T
        clear X2
        have Bo := box_below (Lib.hid X3) T
        clear X3
        have s0 : w.heap.size ≤ V.heap.size := TV.size
        obtain ⟨ba0, hba0⟩ : ∃ b, w.heap.size = b := ⟨_, rfl⟩
        rw [hba0] at Br
        try rw [hba0]
        have Sr := Rr.below (TV.trans (T.mono s0))
        have Sp := Rp.below (TV.trans (T.mono s0))
        refine (robustOf_eq (Sr.below (by repeat (first | exact bR | refine bO ?_ | refine bA ?_ | refine bS ?_ | refine bD ?_ | refine bN ?_))) hsr (Sp.below (by repeat (first | exact bR | refine bO ?_ | refine bA ?_ | refine bS ?_ | refine bD ?_ | refine bN ?_))) hlp H1).mono ?_
        rintro e W2 ⟨ae, de, rfl, Xe, hb⟩
        have K : Below W0.heap.size W0 W2 := Below.trans (by repeat (first | exact bR | refine bO ?_ | refine bA ?_ | refine bS ?_ | refine bD ?_ | refine bN ?_)) (hb.mono (by first | exact Nat.le_refl _ | simp [ov_size]))
        replace Xe := Xe.weak (B' := V.heap.size) (by have := T.size; (try simp [ov_size]); omega)
        clear hb
        replace T := T.trans (K.mono T.size)
        replace Br := box_below Br K
        replace Bp := box_below Bp K
        replace Bs := box_below Bs K
        replace Bo := box_below Bo K
        clear K Sr Sp
        have Sr := Rr.below (TV.trans (T.mono s0))
        have Sp := Rp.below (TV.trans (T.mono s0))
        obtain ⟨Brc0, Brc1, Brc2, Brc3, Brc4, Brc5, Brc6, Brc7, Brl⟩ := cb8 Br
        obtain ⟨Bpc0, Bpl⟩ := cb1 Bp
        obtain ⟨Bsc0, Bsc1, Bsc2, Bsl⟩ := cb3 Bs
        obtain ⟨Boc0, Boc1, Boc2, Boc3, Bol⟩ := cb4 Bo
        have Bof0 := frozen_blk (j := 0) Bo.out
        have Bof1 := frozen_blk (j := 1) Bo.out
        have Bof2 := frozen_blk (j := 2) Bo.out
        have Bof3 := frozen_blk (j := 3) Bo.out
        go_wp2_with fail
        clear Brc0 Brc1 Brc2 Brc3 Brc4 Brc5 Brc6 Brc7 Bpc0 Bsc0 Bsc1 Bsc2 Boc0 Boc1 Boc2 Boc3 Brl Bpl Bsl Bol
        clear Bof0 Bof1 Bof2 Bof3
        obtain ⟨be, hbx⟩ : ∃ b, b = W2.heap.size := ⟨_, rfl⟩
        rw [← hbx]
        obtain ⟨W3, hW⟩ : ∃ W, W = W2.alloc (.cells #[.slice ae e.length de] 26) := ⟨_, rfl⟩
        rw [← hW]
        have K : Below W2.heap.size W2 W3 := by rw [hW]; exact (by repeat (first | exact bR | refine bO ?_ | refine bA ?_ | refine bS ?_ | refine bD ?_ | refine bN ?_))
        have Be := Lib.hid (show W3.heap[be]? = some (.cells #[.slice ae e.length de] 26 (0, 0)) by rw [hW, hbx]; exact heap_alloc_new _ _)
        clear hW hbx
        replace T := T.trans (K.mono T.size)
        replace Br := box_below Br K
        replace Bp := box_below Bp K
        replace Bs := box_below Bs K
        replace Bo := box_below Bo K
        replace Xe := Xe.below K
        clear K Sr Sp
        have Sr := Rr.below (TV.trans (T.mono s0))
        have Sp := Rp.below (TV.trans (T.mono s0))
        obtain ⟨Brc0, Brc1, Brc2, Brc3, Brc4, Brc5, Brc6, Brc7, Brl⟩ := cb8 Br
        obtain ⟨Bpc0, Bpl⟩ := cb1 Bp
        obtain ⟨Bsc0, Bsc1, Bsc2, Bsl⟩ := cb3 Bs
        obtain ⟨Boc0, Boc1, Boc2, Boc3, Bol⟩ := cb4 Bo
        obtain ⟨Bec0, Bel⟩ := cb1 Be
        have Bof0 := frozen_blk (j := 0) Bo.out
        have Bof1 := frozen_blk (j := 1) Bo.out
        have Bof2 := frozen_blk (j := 2) Bo.out
        have Bof3 := frozen_blk (j := 3) Bo.out
        go_wp2_with fail
        clear Brc0 Brc1 Brc2 Brc3 Brc4 Brc5 Brc6 Brc7 Bpc0 Bsc0 Bsc1 Bsc2 Boc0 Boc1 Boc2 Boc3 Bec0 Brl Bpl Bsl Bol Bel
        clear Bof0 Bof1 Bof2 Bof3
        refine (calls_ov (impl_SpotOk_eq H2.out hS.x hS.y hS.d)).mono ?_
        rintro e w' ⟨rfl, x, rfl⟩
        obtain ⟨W4, hW⟩ : ∃ W4, W4 = ov W3 x := ⟨_, rfl⟩
        rw [← hW]
        have K : Below W3.heap.size W3 W4 := by rw [hW]; exact (by repeat (first | exact bR | refine bO ?_ | refine bA ?_ | refine bS ?_ | refine bD ?_ | refine bN ?_))
        clear hW
        replace T := T.trans (K.mono T.size)
        replace Br := box_below Br K
        replace Bp := box_below Bp K
        replace Bs := box_below Bs K
        replace Bo := box_below Bo K
        replace Be := box_below Be K
        replace Xe := Xe.below K
        clear K Sr Sp
        have Sr := Rr.below (TV.trans (T.mono s0))
        have Sp := Rp.below (TV.trans (T.mono s0))
        obtain ⟨Brc0, Brc1, Brc2, Brc3, Brc4, Brc5, Brc6, Brc7, Brl⟩ := cb8 Br
        obtain ⟨Bpc0, Bpl⟩ := cb1 Bp
        obtain ⟨Bsc0, Bsc1, Bsc2, Bsl⟩ := cb3 Bs
        obtain ⟨Boc0, Boc1, Boc2, Boc3, Bol⟩ := cb4 Bo
        obtain ⟨Bec0, Bel⟩ := cb1 Be
        have Bof0 := frozen_blk (j := 0) Bo.out
        have Bof1 := frozen_blk (j := 1) Bo.out
        have Bof2 := frozen_blk (j := 2) Bo.out
        have Bof3 := frozen_blk (j := 3) Bo.out
        go_wp2
        refine bodyPost_ret (v := .tuple #[.agg #[.int .i64 0, .int .i64 0, .int .i64 0, .int .i64 0], .bool false]) (by simp [results, Tryz.results29, go_sem, Boc0, Boc1, Boc2, Boc3, Bol]) rfl ⟨rfl, ?_⟩
        exact (by repeat (first | exact TV.trans (T.mono s0) | refine bO ?_ | refine bA ?_ | refine bS ?_ | refine bD ?_ | refine bN ?_))
      · skip
        go_enter Tryz.func29, Tryz.ntmps29
        go_wp2_with fail
        obtain ⟨V, hV⟩ : ∃ V, ((((w.alloc (.cells #[.slice Ar1 r.m.length cr1, .int .i64 r.q, .int .i64 r.bx, .int .i64 r.by_, .int .i64 r.lo, .int .i64 r.hi, .slice Ar2 r.ns.length cr2, .slice Ar3 r.ls.length cr3] 28)).alloc (.cells #[.slice Ap p.length cp] 26)).alloc (.cells #[.int .i64 x1, .int .i64 y1, .int .i64 d1] 52)).alloc (.cells #[.int .i64 0, .int .i64 0, .int .i64 0, .int .i64 0] 61)) = V := ⟨_, rfl⟩
        have TV : Below w.heap.size w V := by rw [← hV]; exact (by repeat (first | exact bR | refine bO ?_ | refine bA ?_ | refine bS ?_ | refine bD ?_ | refine bN ?_))
        have X0 : V.heap[w.heap.size]? = some (.cells #[.slice Ar1 r.m.length cr1, .int .i64 r.q, .int .i64 r.bx, .int .i64 r.by_, .int .i64 r.lo, .int .i64 r.hi, .slice Ar2 r.ns.length cr2, .slice Ar3 r.ls.length cr3] 28 (0, 0)) := by rw [← hV]; exact ((heap_old_at (by first | (simp; done) | (simp <;> omega))).trans ((heap_old_at (by first | (simp; done) | (simp <;> omega))).trans ((heap_old_at (by first | (simp; done) | (simp <;> omega))).trans (heap_new_at (by first | (simp; done) | (simp <;> omega)) rfl))))
        have X1 : V.heap[w.heap.size + 1]? = some (.cells #[.slice Ap p.length cp] 26 (0, 0)) := by rw [← hV]; exact ((heap_old_at (by first | (simp; done) | (simp <;> omega))).trans ((heap_old_at (by first | (simp; done) | (simp <;> omega))).trans (heap_new_at (by first | (simp; done) | (simp <;> omega)) rfl)))
        have X2 : V.heap[w.heap.size + 1 + 1]? = some (.cells #[.int .i64 x1, .int .i64 y1, .int .i64 d1] 52 (0, 0)) := by rw [← hV]; exact ((heap_old_at (by first | (simp; done) | (simp <;> omega))).trans (heap_new_at (by first | (simp; done) | (simp <;> omega)) rfl))
        have X3 : V.heap[w.heap.size + 1 + 1 + 1]? = some (.cells #[.int .i64 0, .int .i64 0, .int .i64 0, .int .i64 0] 61 (0, 0)) := by rw [← hV]; exact (heap_new_at (by first | (simp; done) | (simp <;> omega)) rfl)
        rw [hV]
        clear hV
        have hbb3 : w.heap.size ≤ w.heap.size + 1 + 1 + 1 := by omega
        generalize w.heap.size + 1 + 1 + 1 = ba3 at X3 hbb3 ⊢
        have hbb2 : w.heap.size ≤ w.heap.size + 1 + 1 := by omega
        generalize w.heap.size + 1 + 1 = ba2 at X2 hbb2 ⊢
        have hbb1 : w.heap.size ≤ w.heap.size + 1 := by omega
        generalize w.heap.size + 1 = ba1 at X1 hbb1 ⊢
        obtain ⟨W0, hW⟩ : ∃ W0, W0 = V := ⟨_, rfl⟩
        rw [← hW]
        have T : Below V.heap.size V W0 := by rw [hW]; exact Below.refl _ _
        clear hW
        have Br := box_below (Lib.hid X0) T
        clear X0
        have Bp := box_below (Lib.hid X1) T
        clear X1
        have Bs := box_below (Lib.hid X2) T
        clear X2
        have Bo := box_below (Lib.hid X3) T
        clear X3
        have s0 : w.heap.size ≤ V.heap.size := TV.size
        obtain ⟨ba0, hba0⟩ : ∃ b, w.heap.size = b := ⟨_, rfl⟩
        rw [hba0] at Br
        try rw [hba0]
        have Sr := Rr.below (TV.trans (T.mono s0))
        have Sp := Rp.below (TV.trans (T.mono s0))
        refine (robustOf_eq (Sr.below (by repeat (first | exact bR | refine bO ?_ | refine bA ?_ | refine bS ?_ | refine bD ?_ | refine bN ?_))) hsr (Sp.below (by repeat (first | exact bR | refine bO ?_ | refine bA ?_ | refine bS ?_ | refine bD ?_ | refine bN ?_))) hlp H1).mono ?_
        rintro e W5 ⟨ae, de, rfl, Xe, hb⟩
        have K : Below W0.heap.size W0 W5 := Below.trans (by repeat (first | exact bR | refine bO ?_ | refine bA ?_ | refine bS ?_ | refine bD ?_ | refine bN ?_)) (hb.mono (by first | exact Nat.le_refl _ | simp [ov_size]))
        replace Xe := Xe.weak (B' := V.heap.size) (by have := T.size; (try simp [ov_size]); omega)
        clear hb
        replace T := T.trans (K.mono T.size)
        replace Br := box_below Br K
        replace Bp := box_below Bp K
        replace Bs := box_below Bs K
        replace Bo := box_below Bo K
        clear K Sr Sp
        have Sr := Rr.below (TV.trans (T.mono s0))
        have Sp := Rp.below (TV.trans (T.mono s0))
        obtain ⟨Brc0, Brc1, Brc2, Brc3, Brc4, Brc5, Brc6, Brc7, Brl⟩ := cb8 Br
        obtain ⟨Bpc0, Bpl⟩ := cb1 Bp
        obtain ⟨Bsc0, Bsc1, Bsc2, Bsl⟩ := cb3 Bs
        obtain ⟨Boc0, Boc1, Boc2, Boc3, Bol⟩ := cb4 Bo
        have Bof0 := frozen_blk (j := 0) Bo.out
        have Bof1 := frozen_blk (j := 1) Bo.out
        have Bof2 := frozen_blk (j := 2) Bo.out
        have Bof3 := frozen_blk (j := 3) Bo.out
        go_wp2_with fail
        clear Brc0 Brc1 Brc2 Brc3 Brc4 Brc5 Brc6 Brc7 Bpc0 Bsc0 Bsc1 Bsc2 Boc0 Boc1 Boc2 Boc3 Brl Bpl Bsl Bol
        clear Bof0 Bof1 Bof2 Bof3
        obtain ⟨be, hbx⟩ : ∃ b, b = W5.heap.size := ⟨_, rfl⟩
        rw [← hbx]
        obtain ⟨W6, hW⟩ : ∃ W, W = W5.alloc (.cells #[.slice ae e.length de] 26) := ⟨_, rfl⟩
        rw [← hW]
        have K : Below W5.heap.size W5 W6 := by rw [hW]; exact (by repeat (first | exact bR | refine bO ?_ | refine bA ?_ | refine bS ?_ | refine bD ?_ | refine bN ?_))
        have Be := Lib.hid (show W6.heap[be]? = some (.cells #[.slice ae e.length de] 26 (0, 0)) by rw [hW, hbx]; exact heap_alloc_new _ _)
        clear hW hbx
        replace T := T.trans (K.mono T.size)
        replace Br := box_below Br K
        replace Bp := box_below Bp K
        replace Bs := box_below Bs K
        replace Bo := box_below Bo K
        replace Xe := Xe.below K
        clear K Sr Sp
        have Sr := Rr.below (TV.trans (T.mono s0))
        have Sp := Rp.below (TV.trans (T.mono s0))
        obtain ⟨Brc0, Brc1, Brc2, Brc3, Brc4, Brc5, Brc6, Brc7, Brl⟩ := cb8 Br
        obtain ⟨Bpc0, Bpl⟩ := cb1 Bp
        obtain ⟨Bsc0, Bsc1, Bsc2, Bsl⟩ := cb3 Bs
        obtain ⟨Boc0, Boc1, Boc2, Boc3, Bol⟩ := cb4 Bo
        obtain ⟨Bec0, Bel⟩ := cb1 Be
        have Bof0 := frozen_blk (j := 0) Bo.out
        have Bof1 := frozen_blk (j := 1) Bo.out
        have Bof2 := frozen_blk (j := 2) Bo.out
        have Bof3 := frozen_blk (j := 3) Bo.out
        go_wp2_with fail
        clear Brc0 Brc1 Brc2 Brc3 Brc4 Brc5 Brc6 Brc7 Bpc0 Bsc0 Bsc1 Bsc2 Boc0 Boc1 Boc2 Boc3 Bec0 Brl Bpl Bsl Bol Bel
        clear Bof0 Bof1 Bof2 Bof3
        refine (calls_ov (impl_SpotOk_eq H2.out hS.x hS.y hS.d)).mono ?_
        rintro e w' ⟨rfl, x, rfl⟩
        obtain ⟨W7, hW⟩ : ∃ W7, W7 = ov W6 x := ⟨_, rfl⟩
        rw [← hW]
        have K : Below W6.heap.size W6 W7 := by rw [hW]; exact (by repeat (first | exact bR | refine bO ?_ | refine bA ?_ | refine bS ?_ | refine bD ?_ | refine bN ?_))
        clear hW
        replace T := T.trans (K.mono T.size)
        replace Br := box_below Br K
        replace Bp := box_below Bp K
        replace Bs := box_below Bs K
        replace Bo := box_below Bo K
        replace Be := box_below Be K
        replace Xe := Xe.below K
        clear K Sr Sp
        have Sr := Rr.below (TV.trans (T.mono s0))
        have Sp := Rp.below (TV.trans (T.mono s0))
        obtain ⟨Brc0, Brc1, Brc2, Brc3, Brc4, Brc5, Brc6, Brc7, Brl⟩ := cb8 Br
        obtain ⟨Bpc0, Bpl⟩ := cb1 Bp
        obtain ⟨Bsc0, Bsc1, Bsc2, Bsl⟩ := cb3 Bs
        obtain ⟨Boc0, Boc1, Boc2, Boc3, Bol⟩ := cb4 Bo
        obtain ⟨Bec0, Bel⟩ := cb1 Be
        have Bof0 := frozen_blk (j := 0) Bo.out
        have Bof1 := frozen_blk (j := 1) Bo.out
        have Bof2 := frozen_blk (j := 2) Bo.out
        have Bof3 := frozen_blk (j := 3) Bo.out
        go_wp2_with fail
        clear Brc0 Brc1 Brc2 Brc3 Brc4 Brc5 Brc6 Brc7 Bpc0 Bsc0 Bsc1 Bsc2 Boc0 Boc1 Boc2 Boc3 Bec0 Brl Bpl Bsl Bol Bel
        clear Bof0 Bof1 Bof2 Bof3
        refine (calls_ov (impl_admit_big (Sr.below (by repeat (first | exact bR | refine bO ?_ | refine bA ?_ | refine bS ?_ | refine bD ?_ | refine bN ?_))) hsr ((Xe.below (by repeat (first | exact bR | refine bO ?_ | refine bA ?_ | refine bS ?_ | refine bD ?_ | refine bN ?_))).r3) hd)).mono ?_
        rintro e w' ⟨rfl, x, rfl⟩
        obtain ⟨W8, hW⟩ : ∃ W8, W8 = ov W7 x := ⟨_, rfl⟩
        rw [← hW]
        have K : Below W7.heap.size W7 W8 := by rw [hW]; exact (by repeat (first | exact bR | refine bO ?_ | refine bA ?_ | refine bS ?_ | refine bD ?_ | refine bN ?_))
        clear hW
        replace T := T.trans (K.mono T.size)
        replace Br := box_below Br K
        replace Bp := box_below Bp K
        replace Bs := box_below Bs K
        replace Bo := box_below Bo K
        replace Be := box_below Be K
        replace Xe := Xe.below K
        clear K Sr Sp
        have Sr := Rr.below (TV.trans (T.mono s0))
        have Sp := Rp.below (TV.trans (T.mono s0))
        obtain ⟨Brc0, Brc1, Brc2, Brc3, Brc4, Brc5, Brc6, Brc7, Brl⟩ := cb8 Br
        obtain ⟨Bpc0, Bpl⟩ := cb1 Bp
        obtain ⟨Bsc0, Bsc1, Bsc2, Bsl⟩ := cb3 Bs
        obtain ⟨Boc0, Boc1, Boc2, Boc3, Bol⟩ := cb4 Bo
        obtain ⟨Bec0, Bel⟩ := cb1 Be
        have Bof0 := frozen_blk (j := 0) Bo.out
        have Bof1 := frozen_blk (j := 1) Bo.out
        have Bof2 := frozen_blk (j := 2) Bo.out
        have Bof3 := frozen_blk (j := 3) Bo.out
        go_wp2
        refine bodyPost_ret (v := .tuple #[.agg #[.int .i64 0, .int .i64 0, .int .i64 0, .int .i64 0], .bool false]) (by simp [results, Tryz.results29, go_sem, Boc0, Boc1, Boc2, Boc3, Bol]) rfl ⟨rfl, ?_⟩
        exact (by repeat (first | exact TV.trans (T.mono s0) | refine bO ?_ | refine bA ?_ | refine bS ?_ | refine bD ?_ | refine bN ?_))
    obtain ⟨rfl, hd⟩ := hgood
    rw [admit_good ⟨robustR_reg2 hro, h2, hd⟩, hro, admOf_yes hne] at hk
    have HK := Lib.hid hk
    clear hk h1 h2 hro
    go_enter Tryz.func29, Tryz.ntmps29
    go_wp2_with fail
    obtain ⟨V, hV⟩ : ∃ V, ((((w.alloc (.cells #[.slice Ar1 r.m.length cr1, .int .i64 r.q, .int .i64 r.bx, .int .i64 r.by_, .int .i64 r.lo, .int .i64 r.hi, .slice Ar2 r.ns.length cr2, .slice Ar3 r.ls.length cr3] 28)).alloc (.cells #[.slice Ap p.length cp] 26)).alloc (.cells #[.int .i64 x1, .int .i64 y1, .int .i64 d1] 52)).alloc (.cells #[.int .i64 0, .int .i64 0, .int .i64 0, .int .i64 0] 61)) = V := ⟨_, rfl⟩
    have TV : Below w.heap.size w V := by rw [← hV]; exact (by repeat (first | exact bR | refine bO ?_ | refine bA ?_ | refine bS ?_ | refine bD ?_ | refine bN ?_))
    have X0 : V.heap[w.heap.size]? = some (.cells #[.slice Ar1 r.m.length cr1, .int .i64 r.q, .int .i64 r.bx, .int .i64 r.by_, .int .i64 r.lo, .int .i64 r.hi, .slice Ar2 r.ns.length cr2, .slice Ar3 r.ls.length cr3] 28 (0, 0)) := by rw [← hV]; exact ((heap_old_at (by first | (simp; done) | (simp <;> omega))).trans ((heap_old_at (by first | (simp; done) | (simp <;> omega))).trans ((heap_old_at (by first | (simp; done) | (simp <;> omega))).trans (heap_new_at (by first | (simp; done) | (simp <;> omega)) rfl))))
    have X1 : V.heap[w.heap.size + 1]? = some (.cells #[.slice Ap p.length cp] 26 (0, 0)) := by rw [← hV]; exact ((heap_old_at (by first | (simp; done) | (simp <;> omega))).trans ((heap_old_at (by first | (simp; done) | (simp <;> omega))).trans (heap_new_at (by first | (simp; done) | (simp <;> omega)) rfl)))
    have X2 : V.heap[w.heap.size + 1 + 1]? = some (.cells #[.int .i64 x1, .int .i64 y1, .int .i64 d1] 52 (0, 0)) := by rw [← hV]; exact ((heap_old_at (by first | (simp; done) | (simp <;> omega))).trans (heap_new_at (by first | (simp; done) | (simp <;> omega)) rfl))
    have X3 : V.heap[w.heap.size + 1 + 1 + 1]? = some (.cells #[.int .i64 0, .int .i64 0, .int .i64 0, .int .i64 0] 61 (0, 0)) := by rw [← hV]; exact (heap_new_at (by first | (simp; done) | (simp <;> omega)) rfl)
    rw [hV]
    clear hV
    have hbb3 : w.heap.size ≤ w.heap.size + 1 + 1 + 1 := by omega
    generalize w.heap.size + 1 + 1 + 1 = ba3 at X3 hbb3 ⊢
    have hbb2 : w.heap.size ≤ w.heap.size + 1 + 1 := by omega
    generalize w.heap.size + 1 + 1 = ba2 at X2 hbb2 ⊢
    have hbb1 : w.heap.size ≤ w.heap.size + 1 := by omega
    generalize w.heap.size + 1 = ba1 at X1 hbb1 ⊢
    obtain ⟨W0, hW⟩ : ∃ W0, W0 = V := ⟨_, rfl⟩
    rw [← hW]
    have T : Below V.heap.size V W0 := by rw [hW]; exact Below.refl _ _
    clear hW
    have Br := box_below (Lib.hid X0) T
    clear X0
    have Bp := box_below (Lib.hid X1) T
    clear X1
    have Bs := box_below (Lib.hid X2) T
    clear X2
    have Bo := box_below (Lib.hid X3) T
    clear X3
    have s0 : w.heap.size ≤ V.heap.size := TV.size
    obtain ⟨ba0, hba0⟩ : ∃ b, w.heap.size = b := ⟨_, rfl⟩
    rw [hba0] at Br
    try rw [hba0]
    have Sr := Rr.below (TV.trans (T.mono s0))
    have Sp := Rp.below (TV.trans (T.mono s0))
    refine (robustOf_eq (Sr.below (by repeat (first | exact bR | refine bO ?_ | refine bA ?_ | refine bS ?_ | refine bD ?_ | refine bN ?_))) hsr (Sp.below (by repeat (first | exact bR | refine bO ?_ | refine bA ?_ | refine bS ?_ | refine bD ?_ | refine bN ?_))) hlp H1).mono ?_
    rintro e W9 ⟨ae, de, rfl, Xe, hb⟩
    have K : Below W0.heap.size W0 W9 := Below.trans (by repeat (first | exact bR | refine bO ?_ | refine bA ?_ | refine bS ?_ | refine bD ?_ | refine bN ?_)) (hb.mono (by first | exact Nat.le_refl _ | simp [ov_size]))
    replace Xe := Xe.weak (B' := V.heap.size) (by have := T.size; (try simp [ov_size]); omega)
    clear hb
    replace T := T.trans (K.mono T.size)
    replace Br := box_below Br K
    replace Bp := box_below Bp K
    replace Bs := box_below Bs K
    replace Bo := box_below Bo K
    clear K Sr Sp
    have Sr := Rr.below (TV.trans (T.mono s0))
    have Sp := Rp.below (TV.trans (T.mono s0))
    obtain ⟨Brc0, Brc1, Brc2, Brc3, Brc4, Brc5, Brc6, Brc7, Brl⟩ := cb8 Br
    obtain ⟨Bpc0, Bpl⟩ := cb1 Bp
    obtain ⟨Bsc0, Bsc1, Bsc2, Bsl⟩ := cb3 Bs
    obtain ⟨Boc0, Boc1, Boc2, Boc3, Bol⟩ := cb4 Bo
    have Bof0 := frozen_blk (j := 0) Bo.out
    have Bof1 := frozen_blk (j := 1) Bo.out
    have Bof2 := frozen_blk (j := 2) Bo.out
    have Bof3 := frozen_blk (j := 3) Bo.out
    go_wp2_with fail
    clear Brc0 Brc1 Brc2 Brc3 Brc4 Brc5 Brc6 Brc7 Bpc0 Bsc0 Bsc1 Bsc2 Boc0 Boc1 Boc2 Boc3 Brl Bpl Bsl Bol
    clear Bof0 Bof1 Bof2 Bof3
    obtain ⟨be, hbx⟩ : ∃ b, b = W9.heap.size := ⟨_, rfl⟩
    rw [← hbx]
    obtain ⟨W10, hW⟩ : ∃ W, W = W9.alloc (.cells #[.slice ae e.length de] 26) := ⟨_, rfl⟩
    rw [← hW]
    have K : Below W9.heap.size W9 W10 := by rw [hW]; exact (by repeat (first | exact bR | refine bO ?_ | refine bA ?_ | refine bS ?_ | refine bD ?_ | refine bN ?_))
    have Be := Lib.hid (show W10.heap[be]? = some (.cells #[.slice ae e.length de] 26 (0, 0)) by rw [hW, hbx]; exact heap_alloc_new _ _)
    clear hW hbx
    replace T := T.trans (K.mono T.size)
    replace Br := box_below Br K
    replace Bp := box_below Bp K
    replace Bs := box_below Bs K
    replace Bo := box_below Bo K
    replace Xe := Xe.below K
    clear K Sr Sp
    have Sr := Rr.below (TV.trans (T.mono s0))
    have Sp := Rp.below (TV.trans (T.mono s0))
    obtain ⟨Brc0, Brc1, Brc2, Brc3, Brc4, Brc5, Brc6, Brc7, Brl⟩ := cb8 Br
    obtain ⟨Bpc0, Bpl⟩ := cb1 Bp
    obtain ⟨Bsc0, Bsc1, Bsc2, Bsl⟩ := cb3 Bs
    obtain ⟨Boc0, Boc1, Boc2, Boc3, Bol⟩ := cb4 Bo
    obtain ⟨Bec0, Bel⟩ := cb1 Be
    have Bof0 := frozen_blk (j := 0) Bo.out
    have Bof1 := frozen_blk (j := 1) Bo.out
    have Bof2 := frozen_blk (j := 2) Bo.out
    have Bof3 := frozen_blk (j := 3) Bo.out
    go_wp2_with fail
    clear Brc0 Brc1 Brc2 Brc3 Brc4 Brc5 Brc6 Brc7 Bpc0 Bsc0 Bsc1 Bsc2 Boc0 Boc1 Boc2 Boc3 Bec0 Brl Bpl Bsl Bol Bel
    clear Bof0 Bof1 Bof2 Bof3
    refine (calls_ov (impl_SpotOk_eq H2.out hS.x hS.y hS.d)).mono ?_
    rintro e w' ⟨rfl, x, rfl⟩
    obtain ⟨W11, hW⟩ : ∃ W11, W11 = ov W10 x := ⟨_, rfl⟩
    rw [← hW]
    have K : Below W10.heap.size W10 W11 := by rw [hW]; exact (by repeat (first | exact bR | refine bO ?_ | refine bA ?_ | refine bS ?_ | refine bD ?_ | refine bN ?_))
    clear hW
    replace T := T.trans (K.mono T.size)
    replace Br := box_below Br K
    replace Bp := box_below Bp K
    replace Bs := box_below Bs K
    replace Bo := box_below Bo K
    replace Be := box_below Be K
    replace Xe := Xe.below K
    clear K Sr Sp
    have Sr := Rr.below (TV.trans (T.mono s0))
    have Sp := Rp.below (TV.trans (T.mono s0))
    obtain ⟨Brc0, Brc1, Brc2, Brc3, Brc4, Brc5, Brc6, Brc7, Brl⟩ := cb8 Br
    obtain ⟨Bpc0, Bpl⟩ := cb1 Bp
    obtain ⟨Bsc0, Bsc1, Bsc2, Bsl⟩ := cb3 Bs
    obtain ⟨Boc0, Boc1, Boc2, Boc3, Bol⟩ := cb4 Bo
    obtain ⟨Bec0, Bel⟩ := cb1 Be
    have Bof0 := frozen_blk (j := 0) Bo.out
    have Bof1 := frozen_blk (j := 1) Bo.out
    have Bof2 := frozen_blk (j := 2) Bo.out
    have Bof3 := frozen_blk (j := 3) Bo.out
    go_wp2_with fail
    clear Brc0 Brc1 Brc2 Brc3 Brc4 Brc5 Brc6 Brc7 Bpc0 Bsc0 Bsc1 Bsc2 Boc0 Boc1 Boc2 Boc3 Bec0 Brl Bpl Bsl Bol Bel
    clear Bof0 Bof1 Bof2 Bof3
    refine (calls_ov (impl_admit_eq (Sr.below (by repeat (first | exact bR | refine bO ?_ | refine bA ?_ | refine bS ?_ | refine bD ?_ | refine bN ?_))) hsr ((Xe.below (by repeat (first | exact bR | refine bO ?_ | refine bA ?_ | refine bS ?_ | refine bD ?_ | refine bN ?_))).r3) KP.out ke.out H2.out hd HK)).mono ?_
    rintro e w' ⟨rfl, x, rfl⟩
    obtain ⟨W12, hW⟩ : ∃ W12, W12 = ov W11 x := ⟨_, rfl⟩
    rw [← hW]
    have K : Below W11.heap.size W11 W12 := by rw [hW]; exact (by repeat (first | exact bR | refine bO ?_ | refine bA ?_ | refine bS ?_ | refine bD ?_ | refine bN ?_))
    clear hW
    replace T := T.trans (K.mono T.size)
    replace Br := box_below Br K
    replace Bp := box_below Bp K
    replace Bs := box_below Bs K
    replace Bo := box_below Bo K
    replace Be := box_below Be K
    replace Xe := Xe.below K
    clear K Sr Sp
    have Sr := Rr.below (TV.trans (T.mono s0))
    have Sp := Rp.below (TV.trans (T.mono s0))
    obtain ⟨Brc0, Brc1, Brc2, Brc3, Brc4, Brc5, Brc6, Brc7, Brl⟩ := cb8 Br
    obtain ⟨Bpc0, Bpl⟩ := cb1 Bp
    obtain ⟨Bsc0, Bsc1, Bsc2, Bsl⟩ := cb3 Bs
    obtain ⟨Boc0, Boc1, Boc2, Boc3, Bol⟩ := cb4 Bo
    obtain ⟨Bec0, Bel⟩ := cb1 Be
    have Bof0 := frozen_blk (j := 0) Bo.out
    have Bof1 := frozen_blk (j := 1) Bo.out
    have Bof2 := frozen_blk (j := 2) Bo.out
    have Bof3 := frozen_blk (j := 3) Bo.out
    go_wp2
    refine bodyPost_ret (v := .tuple #[.agg #[.int .i64 l1, .int .i64 l2, .int .i64 m1, .int .i64 m2], .bool ok]) (by simp [results, Tryz.results29, go_sem, Boc0, Boc1, Boc2, Boc3, Bol]) rfl ⟨rfl, ?_⟩
    exact (by repeat (first | exact TV.trans (T.mono s0) | refine bO ?_ | refine bA ?_ | refine bS ?_ | refine bD ?_ | refine bN ?_))

end Go.Proofs.YtabmfaamadbefaaGreat