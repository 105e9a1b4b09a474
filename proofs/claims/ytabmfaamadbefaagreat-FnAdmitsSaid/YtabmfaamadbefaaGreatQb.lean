/- Contracts of the program's RobustPart, pre, PreRegion, keep and KeepRegion. No condition but that rows are short. -/
import Derived.Test.YtabmfaamadbefaaGreatQa
import Derived.Test.YtabmfaamadbefaaGreatWn
import Derived.Test.YtabmfaamadbefaaGreatGs
set_option linter.unusedVariables false
set_option linter.unusedSimpArgs false
set_option linter.unusedSectionVars false
namespace Go.Proofs.YtabmfaamadbefaaGreat
open Go.RowKit
theorem preM_len {r : RoomV} {p e : List H3} (h : preM r p = (e, true)) : e.length ≤ 40 := (region_good (preM_ok h)).2
set_option maxRecDepth 100000 in
set_option maxHeartbeats 8000000 in
theorem impl_pre_eq {r : RoomV} {Ar1 Ar2 Ar3 : Option Addr} {cr1 cr2 cr3 : Nat} {p : List H3} {Ap : Option Addr} {cp : Nat} {w : World} {out : List H3} {ok : Bool} (Rr : RM w r Ar1 Ar2 cr2 Ar3 cr3) (hsr : r.Short) (Rp : R3 44 w Ap cp p) (P : RoomP r) (kp : regionOk p = true) (hr : Hid (preM r p = (out, ok))) :
    Calls Tryz.prog 54 #[.agg #[.slice Ar1 r.m.length cr1, .int .i64 r.q, .int .i64 r.bx, .int .i64 r.by_, .int .i64 r.lo, .int .i64 r.hi, .slice Ar2 r.ns.length cr2, .slice Ar3 r.ls.length cr3], .agg #[.slice Ap p.length cp]] w (RegPost w out ok) := by
  have hk := hr.out
  unfold preM at hk
  clear hr
  obtain ⟨⟨e, v1⟩, h1⟩ : ∃ s, movedF (erF r.ns) p = s := ⟨_, rfl⟩
  rw [h1] at hk
  have H1 := Lib.hid h1
  have hce : (v1 = false ∨ (v1 = true ∧ 38 < (e.length : Int))) ∨ (v1 = true ∧ e.length ≤ 38) := by
    cases v1
    · exact .inl (.inl rfl)
    · by_cases hl : e.length ≤ 38
      · exact .inr ⟨rfl, hl⟩
      · exact .inl (.inr ⟨rfl, by omega⟩)
  rcases hce with hce | ⟨rfl, hle⟩
  · have hko : out = [] ∧ ok = false := by
      rcases hce with rfl | ⟨rfl, hl⟩
      · rw [thenL_false (by rw [thenL_false rfl]), Prod.mk.injEq] at hk
        exact ⟨hk.1.symm, hk.2.symm⟩
      · rw [thenL_false (by rw [thenL_true rfl]; unfold growP; rw [if_neg (by show ¬ e.length ≤ 38; omega)]), Prod.mk.injEq] at hk
        exact ⟨hk.1.symm, hk.2.symm⟩
    obtain ⟨rfl, rfl⟩ := hko
    clear hk h1
    rcases hce with rfl | ⟨rfl, hl⟩
    all_goals
      go_enter Tryz.func54, Tryz.ntmps54
      go_wp2_with fail
      obtain ⟨V, hV⟩ : ∃ V, (((w.alloc (.cells #[.slice Ar1 r.m.length cr1, .int .i64 r.q, .int .i64 r.bx, .int .i64 r.by_, .int .i64 r.lo, .int .i64 r.hi, .slice Ar2 r.ns.length cr2, .slice Ar3 r.ls.length cr3] 28)).alloc (.cells #[.slice Ap p.length cp] 26)).alloc (.cells #[.slice none 0 0] 26)) = V := ⟨_, rfl⟩
      have TV : Below w.heap.size w V := by rw [← hV]; exact (by repeat (first | exact bR | refine bO ?_ | refine bA ?_ | refine bS ?_ | refine bD ?_ | refine bN ?_))
      have X0 : V.heap[w.heap.size]? = some (.cells #[.slice Ar1 r.m.length cr1, .int .i64 r.q, .int .i64 r.bx, .int .i64 r.by_, .int .i64 r.lo, .int .i64 r.hi, .slice Ar2 r.ns.length cr2, .slice Ar3 r.ls.length cr3] 28 (0, 0)) := by rw [← hV]; exact ((heap_old_at (by first | (simp; done) | (simp <;> omega))).trans ((heap_old_at (by first | (simp; done) | (simp <;> omega))).trans (heap_new_at (by first | (simp; done) | (simp <;> omega)) rfl)))
      have X1 : V.heap[w.heap.size + 1]? = some (.cells #[.slice Ap p.length cp] 26 (0, 0)) := by rw [← hV]; exact ((heap_old_at (by first | (simp; done) | (simp <;> omega))).trans (heap_new_at (by first | (simp; done) | (simp <;> omega)) rfl))
      have X2 : V.heap[w.heap.size + 1 + 1]? = some (.cells #[.slice none 0 0] 26 (0, 0)) := by rw [← hV]; exact (heap_new_at (by first | (simp; done) | (simp <;> omega)) rfl)
      rw [hV]
      clear hV
      have hbb2 : w.heap.size ≤ w.heap.size + 1 + 1 := by omega
      generalize w.heap.size + 1 + 1 = ba2 at X2 hbb2 ⊢
      have hbb1 : w.heap.size ≤ w.heap.size + 1 := by omega
      generalize w.heap.size + 1 = ba1 at X1 hbb1 ⊢
      obtain ⟨W0, hW⟩ : ∃ W0, W0 = V := ⟨_, rfl⟩
      rw [← hW]
      have T : Below V.heap.size V W0 := by rw [hW]; exact Below.refl _ _
      clear hW
      have Br := box_below (Lib.hid X0) T
      clear X0
      have Bp := box_below (Lib.hid X1) T
      clear X1
      have Bo := box_below (Lib.hid X2) T
      clear X2
      have s0 : w.heap.size ≤ V.heap.size := TV.size
      obtain ⟨ba0, hba0⟩ : ∃ b, w.heap.size = b := ⟨_, rfl⟩
      rw [hba0] at Br
      try rw [hba0]
      have Sr := Rr.below (TV.trans (T.mono s0))
      have Sp := Rp.below (TV.trans (T.mono s0))
      refine (erode_eq P.nk P.ns (Sr.nr.below (by repeat (first | exact bR | refine bO ?_ | refine bA ?_ | refine bS ?_ | refine bD ?_ | refine bN ?_))) (Sp.below (by repeat (first | exact bR | refine bO ?_ | refine bA ?_ | refine bS ?_ | refine bD ?_ | refine bN ?_))) kp H1).mono ?_
      rintro e W1 ⟨ae, de, rfl, Xe, hb⟩
      have K : Below W0.heap.size W0 W1 := Below.trans (by repeat (first | exact bR | refine bO ?_ | refine bA ?_ | refine bS ?_ | refine bD ?_ | refine bN ?_)) (hb.mono (by first | exact Nat.le_refl _ | simp [ov_size]))
      replace Xe := Xe.weak (B' := V.heap.size) (by have := T.size; (try simp [ov_size]); omega)
      clear hb
      replace T := T.trans (K.mono T.size)
      replace Br := box_below Br K
      replace Bp := box_below Bp K
      replace Bo := box_below Bo K
      clear K Sr Sp
      have Sr := Rr.below (TV.trans (T.mono s0))
      have Sp := Rp.below (TV.trans (T.mono s0))
      obtain ⟨Brc0, Brc1, Brc2, Brc3, Brc4, Brc5, Brc6, Brc7, Brl⟩ := cb8 Br
      obtain ⟨Bpc0, Bpl⟩ := cb1 Bp
      obtain ⟨Boc0, Bol⟩ := cb1 Bo
      have Bof0 := frozen_blk (j := 0) Bo.out
      go_wp2
      refine bodyPost_ret (v := .tuple #[.agg #[.slice none 0 0], .bool false]) (by simp [results, Tryz.results54, go_sem, Boc0, Bol]) rfl ⟨none, 0, rfl, RB.nil _ _ _, ?_⟩
      exact (by repeat (first | exact TV.trans (T.mono s0) | refine bO ?_ | refine bA ?_ | refine bS ?_ | refine bD ?_ | refine bN ?_))
  · obtain ⟨⟨g1, v2⟩, h2⟩ : ∃ s, growM e r.bx r.by_ r.lo r.hi = s := ⟨_, rfl⟩
    have ke := erosion_ok h1
    have hgp : growP r e = (g1, v2) := by unfold growP; rw [if_pos hle, h2]
    rw [thenL_true (x := (e, true)) rfl] at hk
    have hk2 : thenL (growP r e) (pullM r) = (out, ok) := hk
    rw [hgp] at hk2
    have H2 := Lib.hid h2
    have hle' : ¬ (38 : Int) < (e.length : Int) := by omega
    cases v2 with
    | false =>
      rw [thenL_false rfl, Prod.mk.injEq] at hk2
      obtain ⟨rfl, rfl⟩ := hk2
      clear h1 h2 hgp hk
      go_enter Tryz.func54, Tryz.ntmps54
      go_wp2_with fail
      obtain ⟨V, hV⟩ : ∃ V, (((w.alloc (.cells #[.slice Ar1 r.m.length cr1, .int .i64 r.q, .int .i64 r.bx, .int .i64 r.by_, .int .i64 r.lo, .int .i64 r.hi, .slice Ar2 r.ns.length cr2, .slice Ar3 r.ls.length cr3] 28)).alloc (.cells #[.slice Ap p.length cp] 26)).alloc (.cells #[.slice none 0 0] 26)) = V := ⟨_, rfl⟩
      have TV : Below w.heap.size w V := by rw [← hV]; exact (by repeat (first | exact bR | refine bO ?_ | refine bA ?_ | refine bS ?_ | refine bD ?_ | refine bN ?_))
      have X0 : V.heap[w.heap.size]? = some (.cells #[.slice Ar1 r.m.length cr1, .int .i64 r.q, .int .i64 r.bx, .int .i64 r.by_, .int .i64 r.lo, .int .i64 r.hi, .slice Ar2 r.ns.length cr2, .slice Ar3 r.ls.length cr3] 28 (0, 0)) := by rw [← hV]; exact ((heap_old_at (by first | (simp; done) | (simp <;> omega))).trans ((heap_old_at (by first | (simp; done) | (simp <;> omega))).trans (heap_new_at (by first | (simp; done) | (simp <;> omega)) rfl)))
      have X1 : V.heap[w.heap.size + 1]? = some (.cells #[.slice Ap p.length cp] 26 (0, 0)) := by rw [← hV]; exact ((heap_old_at (by first | (simp; done) | (simp <;> omega))).trans (heap_new_at (by first | (simp; done) | (simp <;> omega)) rfl))
      have X2 : V.heap[w.heap.size + 1 + 1]? = some (.cells #[.slice none 0 0] 26 (0, 0)) := by rw [← hV]; exact (heap_new_at (by first | (simp; done) | (simp <;> omega)) rfl)
      rw [hV]
      clear hV
      have hbb2 : w.heap.size ≤ w.heap.size + 1 + 1 := by omega
      generalize w.heap.size + 1 + 1 = ba2 at X2 hbb2 ⊢
      have hbb1 : w.heap.size ≤ w.heap.size + 1 := by omega
      generalize w.heap.size + 1 = ba1 at X1 hbb1 ⊢
      obtain ⟨W0, hW⟩ : ∃ W0, W0 = V := ⟨_, rfl⟩
      rw [← hW]
      have T : Below V.heap.size V W0 := by rw [hW]; exact Below.refl _ _
      clear hW
      have Br := box_below (Lib.hid X0) T
      clear X0
      have Bp := box_below (Lib.hid X1) T
      clear X1
      have Bo := box_below (Lib.hid X2) T
      clear X2
      have s0 : w.heap.size ≤ V.heap.size := TV.size
      obtain ⟨ba0, hba0⟩ : ∃ b, w.heap.size = b := ⟨_, rfl⟩
      rw [hba0] at Br
      try rw [hba0]
      have Sr := Rr.below (TV.trans (T.mono s0))
      have Sp := Rp.below (TV.trans (T.mono s0))
      refine (erode_eq P.nk P.ns (Sr.nr.below (by repeat (first | exact bR | refine bO ?_ | refine bA ?_ | refine bS ?_ | refine bD ?_ | refine bN ?_))) (Sp.below (by repeat (first | exact bR | refine bO ?_ | refine bA ?_ | refine bS ?_ | refine bD ?_ | refine bN ?_))) kp H1).mono ?_
      rintro e W2 ⟨ae, de, rfl, Xe, hb⟩
      have K : Below W0.heap.size W0 W2 := Below.trans (by repeat (first | exact bR | refine bO ?_ | refine bA ?_ | refine bS ?_ | refine bD ?_ | refine bN ?_)) (hb.mono (by first | exact Nat.le_refl _ | simp [ov_size]))
      replace Xe := Xe.weak (B' := V.heap.size) (by have := T.size; (try simp [ov_size]); omega)
      clear hb
      replace T := T.trans (K.mono T.size)
      replace Br := box_below Br K
      replace Bp := box_below Bp K
      replace Bo := box_below Bo K
      clear K Sr Sp
      have Sr := Rr.below (TV.trans (T.mono s0))
      have Sp := Rp.below (TV.trans (T.mono s0))
      obtain ⟨Brc0, Brc1, Brc2, Brc3, Brc4, Brc5, Brc6, Brc7, Brl⟩ := cb8 Br
      obtain ⟨Bpc0, Bpl⟩ := cb1 Bp
      obtain ⟨Boc0, Bol⟩ := cb1 Bo
      have Bof0 := frozen_blk (j := 0) Bo.out
      go_wp2_with fail
      clear Brc0 Brc1 Brc2 Brc3 Brc4 Brc5 Brc6 Brc7 Bpc0 Boc0 Brl Bpl Bol
      clear Bof0
      obtain ⟨be, hbx⟩ : ∃ b, b = W2.heap.size := ⟨_, rfl⟩
      rw [← hbx]
      obtain ⟨W3, hW⟩ : ∃ W, W = W2.alloc (.cells #[.slice ae e.length de] 26) := ⟨_, rfl⟩
      rw [← hW]
      have K : Below W2.heap.size W2 W3 := by rw [hW]; exact (by repeat (first | exact bR | refine bO ?_ | refine bA ?_ | refine bS ?_ | refine bD ?_ | refine bN ?_))
      have Be := Lib.hid (show W3.heap[be]? = some (.cells #[.slice ae e.length de] 26 (0, 0)) by rw [hW, hbx]; exact heap_alloc_new _ _)
      clear hW hbx
      replace T := T.trans (K.mono T.size)
      replace Br := box_below Br K
      replace Bp := box_below Bp K
      replace Bo := box_below Bo K
      replace Xe := Xe.below K
      clear K Sr Sp
      have Sr := Rr.below (TV.trans (T.mono s0))
      have Sp := Rp.below (TV.trans (T.mono s0))
      obtain ⟨Brc0, Brc1, Brc2, Brc3, Brc4, Brc5, Brc6, Brc7, Brl⟩ := cb8 Br
      obtain ⟨Bpc0, Bpl⟩ := cb1 Bp
      obtain ⟨Boc0, Bol⟩ := cb1 Bo
      obtain ⟨Bec0, Bel⟩ := cb1 Be
      have Bof0 := frozen_blk (j := 0) Bo.out
      go_wp2_with fail
      clear Brc0 Brc1 Brc2 Brc3 Brc4 Brc5 Brc6 Brc7 Bpc0 Boc0 Bec0 Brl Bpl Bol Bel
      clear Bof0
      refine (grow_eq ke hle ((Xe.below (by repeat (first | exact bR | refine bO ?_ | refine bA ?_ | refine bS ?_ | refine bD ?_ | refine bN ?_))).r3) (growBd_of P) H2).mono ?_
      rintro e W4 ⟨ag, dg, rfl, Xg, hb⟩
      have K : Below W3.heap.size W3 W4 := Below.trans (by repeat (first | exact bR | refine bO ?_ | refine bA ?_ | refine bS ?_ | refine bD ?_ | refine bN ?_)) (hb.mono (by first | exact Nat.le_refl _ | simp [ov_size]))
      replace Xg := Xg.weak (B' := V.heap.size) (by have := T.size; (try simp [ov_size]); omega)
      clear hb
      replace T := T.trans (K.mono T.size)
      replace Br := box_below Br K
      replace Bp := box_below Bp K
      replace Bo := box_below Bo K
      replace Be := box_below Be K
      replace Xe := Xe.below K
      clear K Sr Sp
      have Sr := Rr.below (TV.trans (T.mono s0))
      have Sp := Rp.below (TV.trans (T.mono s0))
      obtain ⟨Brc0, Brc1, Brc2, Brc3, Brc4, Brc5, Brc6, Brc7, Brl⟩ := cb8 Br
      obtain ⟨Bpc0, Bpl⟩ := cb1 Bp
      obtain ⟨Boc0, Bol⟩ := cb1 Bo
      obtain ⟨Bec0, Bel⟩ := cb1 Be
      have Bof0 := frozen_blk (j := 0) Bo.out
      go_wp2
      refine bodyPost_ret (v := .tuple #[.agg #[.slice none 0 0], .bool false]) (by simp [results, Tryz.results54, go_sem, Boc0, Bol]) rfl ⟨none, 0, rfl, RB.nil _ _ _, ?_⟩
      exact (by repeat (first | exact TV.trans (T.mono s0) | refine bO ?_ | refine bA ?_ | refine bS ?_ | refine bD ?_ | refine bN ?_))
    | true =>
      rw [thenL_true (x := (g1, true)) rfl] at hk2
      have kg := growP_ok ke hgp
      obtain ⟨_, a, b, ee, f, hm, MB, _⟩ := turnOk_parts P.tk
      have hk3 : movedF (pullF a b ee f r.q) g1 = (out, ok) := by
        have := hk2
        unfold pullM at this
        rw [hm] at this
        exact this
      have HK := Lib.hid hk3
      have h4 : r.m.length = 4 := by rw [hm]; rfl
      have GG : g1 = [] ∨ ((∀ g ∈ g1, HOk g) ∧ g1.length ≤ 40) := .inr (region_good kg)
      have key : ∀ (W : World) (A4 : Option Addr) (C4 : Nat) (A5 : Option Addr) (C5 : Nat), RI W A4 r.m → R3 44 W A5 C5 g1 → Calls Tryz.prog 90 #[.agg #[.slice A5 g1.length C5], .slice A4 r.m.length C4, .int .i64 r.q] W (RegPost W out ok) := fun W A4 C4 A5 C5 RM4 R5 => by
        rw [hm] at RM4 ⊢
        exact pull_eq MB RM4 R5 GG HK
      have KEY := Lib.hid key
      clear h1 h2 hgp hk hk2 hk3 key hm h4 GG
      go_enter Tryz.func54, Tryz.ntmps54
      go_wp2_with fail
      obtain ⟨V, hV⟩ : ∃ V, (((w.alloc (.cells #[.slice Ar1 r.m.length cr1, .int .i64 r.q, .int .i64 r.bx, .int .i64 r.by_, .int .i64 r.lo, .int .i64 r.hi, .slice Ar2 r.ns.length cr2, .slice Ar3 r.ls.length cr3] 28)).alloc (.cells #[.slice Ap p.length cp] 26)).alloc (.cells #[.slice none 0 0] 26)) = V := ⟨_, rfl⟩
      have TV : Below w.heap.size w V := by rw [← hV]; exact (by repeat (first | exact bR | refine bO ?_ | refine bA ?_ | refine bS ?_ | refine bD ?_ | refine bN ?_))
      have X0 : V.heap[w.heap.size]? = some (.cells #[.slice Ar1 r.m.length cr1, .int .i64 r.q, .int .i64 r.bx, .int .i64 r.by_, .int .i64 r.lo, .int .i64 r.hi, .slice Ar2 r.ns.length cr2, .slice Ar3 r.ls.length cr3] 28 (0, 0)) := by rw [← hV]; exact ((heap_old_at (by first | (simp; done) | (simp <;> omega))).trans ((heap_old_at (by first | (simp; done) | (simp <;> omega))).trans (heap_new_at (by first | (simp; done) | (simp <;> omega)) rfl)))
      have X1 : V.heap[w.heap.size + 1]? = some (.cells #[.slice Ap p.length cp] 26 (0, 0)) := by rw [← hV]; exact ((heap_old_at (by first | (simp; done) | (simp <;> omega))).trans (heap_new_at (by first | (simp; done) | (simp <;> omega)) rfl))
      have X2 : V.heap[w.heap.size + 1 + 1]? = some (.cells #[.slice none 0 0] 26 (0, 0)) := by rw [← hV]; exact (heap_new_at (by first | (simp; done) | (simp <;> omega)) rfl)
      rw [hV]
      clear hV
      have hbb2 : w.heap.size ≤ w.heap.size + 1 + 1 := by omega
      generalize w.heap.size + 1 + 1 = ba2 at X2 hbb2 ⊢
      have hbb1 : w.heap.size ≤ w.heap.size + 1 := by omega
      generalize w.heap.size + 1 = ba1 at X1 hbb1 ⊢
      obtain ⟨W0, hW⟩ : ∃ W0, W0 = V := ⟨_, rfl⟩
      rw [← hW]
      have T : Below V.heap.size V W0 := by rw [hW]; exact Below.refl _ _
      clear hW
      have Br := box_below (Lib.hid X0) T
      clear X0
      have Bp := box_below (Lib.hid X1) T
      clear X1
      have Bo := box_below (Lib.hid X2) T
      clear X2
      have s0 : w.heap.size ≤ V.heap.size := TV.size
      obtain ⟨ba0, hba0⟩ : ∃ b, w.heap.size = b := ⟨_, rfl⟩
      rw [hba0] at Br
      try rw [hba0]
      have Sr := Rr.below (TV.trans (T.mono s0))
      have Sp := Rp.below (TV.trans (T.mono s0))
      refine (erode_eq P.nk P.ns (Sr.nr.below (by repeat (first | exact bR | refine bO ?_ | refine bA ?_ | refine bS ?_ | refine bD ?_ | refine bN ?_))) (Sp.below (by repeat (first | exact bR | refine bO ?_ | refine bA ?_ | refine bS ?_ | refine bD ?_ | refine bN ?_))) kp H1).mono ?_
      rintro e W5 ⟨ae, de, rfl, Xe, hb⟩
      have K : Below W0.heap.size W0 W5 := Below.trans (by repeat (first | exact bR | refine bO ?_ | refine bA ?_ | refine bS ?_ | refine bD ?_ | refine bN ?_)) (hb.mono (by first | exact Nat.le_refl _ | simp [ov_size]))
      replace Xe := Xe.weak (B' := V.heap.size) (by have := T.size; (try simp [ov_size]); omega)
      clear hb
      replace T := T.trans (K.mono T.size)
      replace Br := box_below Br K
      replace Bp := box_below Bp K
      replace Bo := box_below Bo K
      clear K Sr Sp
      have Sr := Rr.below (TV.trans (T.mono s0))
      have Sp := Rp.below (TV.trans (T.mono s0))
      obtain ⟨Brc0, Brc1, Brc2, Brc3, Brc4, Brc5, Brc6, Brc7, Brl⟩ := cb8 Br
      obtain ⟨Bpc0, Bpl⟩ := cb1 Bp
      obtain ⟨Boc0, Bol⟩ := cb1 Bo
      have Bof0 := frozen_blk (j := 0) Bo.out
      go_wp2_with fail
      clear Brc0 Brc1 Brc2 Brc3 Brc4 Brc5 Brc6 Brc7 Bpc0 Boc0 Brl Bpl Bol
      clear Bof0
      obtain ⟨be, hbx⟩ : ∃ b, b = W5.heap.size := ⟨_, rfl⟩
      rw [← hbx]
      obtain ⟨W6, hW⟩ : ∃ W, W = W5.alloc (.cells #[.slice ae e.length de] 26) := ⟨_, rfl⟩
      rw [← hW]
      have K : Below W5.heap.size W5 W6 := by rw [hW]; exact (by repeat (first | exact bR | refine bO ?_ | refine bA ?_ | refine bS ?_ | refine bD ?_ | refine bN ?_))
      have Be := Lib.hid (show W6.heap[be]? = some (.cells #[.slice ae e.length de] 26 (0, 0)) by rw [hW, hbx]; exact heap_alloc_new _ _)
      clear hW hbx
      replace T := T.trans (K.mono T.size)
      replace Br := box_below Br K
      replace Bp := box_below Bp K
      replace Bo := box_below Bo K
      replace Xe := Xe.below K
      clear K Sr Sp
      have Sr := Rr.below (TV.trans (T.mono s0))
      have Sp := Rp.below (TV.trans (T.mono s0))
      obtain ⟨Brc0, Brc1, Brc2, Brc3, Brc4, Brc5, Brc6, Brc7, Brl⟩ := cb8 Br
      obtain ⟨Bpc0, Bpl⟩ := cb1 Bp
      obtain ⟨Boc0, Bol⟩ := cb1 Bo
      obtain ⟨Bec0, Bel⟩ := cb1 Be
      have Bof0 := frozen_blk (j := 0) Bo.out
      go_wp2_with fail
      clear Brc0 Brc1 Brc2 Brc3 Brc4 Brc5 Brc6 Brc7 Bpc0 Boc0 Bec0 Brl Bpl Bol Bel
      clear Bof0
      refine (grow_eq ke hle ((Xe.below (by repeat (first | exact bR | refine bO ?_ | refine bA ?_ | refine bS ?_ | refine bD ?_ | refine bN ?_))).r3) (growBd_of P) H2).mono ?_
      rintro e W7 ⟨ag, dg, rfl, Xg, hb⟩
      have K : Below W6.heap.size W6 W7 := Below.trans (by repeat (first | exact bR | refine bO ?_ | refine bA ?_ | refine bS ?_ | refine bD ?_ | refine bN ?_)) (hb.mono (by first | exact Nat.le_refl _ | simp [ov_size]))
      replace Xg := Xg.weak (B' := V.heap.size) (by have := T.size; (try simp [ov_size]); omega)
      clear hb
      replace T := T.trans (K.mono T.size)
      replace Br := box_below Br K
      replace Bp := box_below Bp K
      replace Bo := box_below Bo K
      replace Be := box_below Be K
      replace Xe := Xe.below K
      clear K Sr Sp
      have Sr := Rr.below (TV.trans (T.mono s0))
      have Sp := Rp.below (TV.trans (T.mono s0))
      obtain ⟨Brc0, Brc1, Brc2, Brc3, Brc4, Brc5, Brc6, Brc7, Brl⟩ := cb8 Br
      obtain ⟨Bpc0, Bpl⟩ := cb1 Bp
      obtain ⟨Boc0, Bol⟩ := cb1 Bo
      obtain ⟨Bec0, Bel⟩ := cb1 Be
      have Bof0 := frozen_blk (j := 0) Bo.out
      go_wp2_with fail
      clear Brc0 Brc1 Brc2 Brc3 Brc4 Brc5 Brc6 Brc7 Bpc0 Boc0 Bec0 Brl Bpl Bol Bel
      clear Bof0
      obtain ⟨bg, hbx⟩ : ∃ b, b = W7.heap.size := ⟨_, rfl⟩
      rw [← hbx]
      obtain ⟨W8, hW⟩ : ∃ W, W = W7.alloc (.cells #[.slice ag g1.length dg] 26) := ⟨_, rfl⟩
      rw [← hW]
      have K : Below W7.heap.size W7 W8 := by rw [hW]; exact (by repeat (first | exact bR | refine bO ?_ | refine bA ?_ | refine bS ?_ | refine bD ?_ | refine bN ?_))
      have Bg := Lib.hid (show W8.heap[bg]? = some (.cells #[.slice ag g1.length dg] 26 (0, 0)) by rw [hW, hbx]; exact heap_alloc_new _ _)
      clear hW hbx
      replace T := T.trans (K.mono T.size)
      replace Br := box_below Br K
      replace Bp := box_below Bp K
      replace Bo := box_below Bo K
      replace Be := box_below Be K
      replace Xe := Xe.below K
      replace Xg := Xg.below K
      clear K Sr Sp
      have Sr := Rr.below (TV.trans (T.mono s0))
      have Sp := Rp.below (TV.trans (T.mono s0))
      obtain ⟨Brc0, Brc1, Brc2, Brc3, Brc4, Brc5, Brc6, Brc7, Brl⟩ := cb8 Br
      obtain ⟨Bpc0, Bpl⟩ := cb1 Bp
      obtain ⟨Boc0, Bol⟩ := cb1 Bo
      obtain ⟨Bec0, Bel⟩ := cb1 Be
      obtain ⟨Bgc0, Bgl⟩ := cb1 Bg
      have Bof0 := frozen_blk (j := 0) Bo.out
      go_wp2_with fail
      clear Brc0 Brc1 Brc2 Brc3 Brc4 Brc5 Brc6 Brc7 Bpc0 Boc0 Bec0 Bgc0 Brl Bpl Bol Bel Bgl
      clear Bof0
      refine (KEY.out _ _ _ _ _ (Sr.mr.below (by repeat (first | exact bR | refine bO ?_ | refine bA ?_ | refine bS ?_ | refine bD ?_ | refine bN ?_))) ((Xg.below (by repeat (first | exact bR | refine bO ?_ | refine bA ?_ | refine bS ?_ | refine bD ?_ | refine bN ?_))).r3)).mono ?_
      rintro e W9 ⟨aq, dq, rfl, Xq, hb⟩
      have K : Below W8.heap.size W8 W9 := Below.trans (by repeat (first | exact bR | refine bO ?_ | refine bA ?_ | refine bS ?_ | refine bD ?_ | refine bN ?_)) (hb.mono (by first | exact Nat.le_refl _ | simp [ov_size]))
      replace Xq := Xq.weak (B' := V.heap.size) (by have := T.size; (try simp [ov_size]); omega)
      clear hb
      replace T := T.trans (K.mono T.size)
      replace Br := box_below Br K
      replace Bp := box_below Bp K
      replace Bo := box_below Bo K
      replace Be := box_below Be K
      replace Bg := box_below Bg K
      replace Xe := Xe.below K
      replace Xg := Xg.below K
      clear K Sr Sp
      have Sr := Rr.below (TV.trans (T.mono s0))
      have Sp := Rp.below (TV.trans (T.mono s0))
      obtain ⟨Brc0, Brc1, Brc2, Brc3, Brc4, Brc5, Brc6, Brc7, Brl⟩ := cb8 Br
      obtain ⟨Bpc0, Bpl⟩ := cb1 Bp
      obtain ⟨Boc0, Bol⟩ := cb1 Bo
      obtain ⟨Bec0, Bel⟩ := cb1 Be
      obtain ⟨Bgc0, Bgl⟩ := cb1 Bg
      have Bof0 := frozen_blk (j := 0) Bo.out
      go_wp2
      refine bodyPost_ret (v := .tuple #[.agg #[.slice aq out.length dq], .bool ok]) (by simp [results, Tryz.results54, go_sem, Boc0, Bol]) rfl ⟨aq, dq, rfl, (Xq.weak s0).set_box Bo.out (by decide), (TV.trans (T.mono s0)).setCell hbb2 _⟩

set_option maxRecDepth 100000 in
set_option maxHeartbeats 8000000 in
theorem impl_PreRegion_eq {r : RoomV} {Ar1 Ar2 Ar3 : Option Addr} {cr1 cr2 cr3 : Nat} {p : List H3} {Ap : Option Addr} {cp : Nat} {w : World} {out : List H3} {ok : Bool} (Rr : RM w r Ar1 Ar2 cr2 Ar3 cr3) (hsr : r.Short) (Rp : R3 44 w Ap cp p) (hlp : p.length ≤ 1000000000) (hr : Hid (preR r p = (out, ok))) :
    Calls Tryz.prog 26 #[.agg #[.slice Ar1 r.m.length cr1, .int .i64 r.q, .int .i64 r.bx, .int .i64 r.by_, .int .i64 r.lo, .int .i64 r.hi, .slice Ar2 r.ns.length cr2, .slice Ar3 r.ls.length cr3], .agg #[.slice Ap p.length cp]] w (RegPost w out ok) := by
  obtain ⟨t1, h1⟩ : ∃ t, roomOk r = t := ⟨_, rfl⟩
  obtain ⟨t2, h2⟩ : ∃ t, regionOk p = t := ⟨_, rfl⟩
  have hk := hr.out
  unfold preR at hk
  rw [h1, h2] at hk
  have H1 := Lib.hid h1
  have H2 := Lib.hid h2
  clear hr h1 h2
  have hc : (t1 = false ∨ (t1 = true ∧ t2 = false)) ∨ (t1 = true ∧ t2 = true) := by cases t1 <;> cases t2 <;> simp
  rcases hc with hc | ⟨rfl, rfl⟩
  · rw [if_neg (by rcases hc with rfl | ⟨rfl, rfl⟩ <;> simp)] at hk
    simp at hk
    obtain ⟨rfl, rfl⟩ := hk
    rcases hc with rfl | ⟨rfl, rfl⟩
    all_goals
      go_enter Tryz.func26, Tryz.ntmps26
      go_wp2_with (first | (go_at_call 13; (first | (with_reducible refine (calls_ov2 (impl_RoomOk_eq (Rr.below (by repeat (first | exact bR | refine bO ?_ | refine bA ?_ | refine bS ?_ | refine bD ?_ | refine bN ?_))) hsr H1)).mono ?_) | refine (calls_ov (impl_RoomOk_eq (Rr.below (by repeat (first | exact bR | refine bO ?_ | refine bA ?_ | refine bS ?_ | refine bD ?_ | refine bN ?_))) hsr H1)).mono ?_); rintro e w' ⟨rfl, x, rfl⟩) | (go_at_call 51; (first | (with_reducible refine (calls_ov2 (impl_RegionOk_eq (Rp.below (by repeat (first | exact bR | refine bO ?_ | refine bA ?_ | refine bS ?_ | refine bD ?_ | refine bN ?_))) (by first | omega | exact hlp) H2)).mono ?_) | refine (calls_ov (impl_RegionOk_eq (Rp.below (by repeat (first | exact bR | refine bO ?_ | refine bA ?_ | refine bS ?_ | refine bD ?_ | refine bN ?_))) (by first | omega | exact hlp) H2)).mono ?_); rintro e w' ⟨rfl, x, rfl⟩))
      refine bodyPost_ret (v := .tuple #[.agg #[.slice none 0 0], .bool false]) (by simp [results, Tryz.results26, go_sem]) rfl ⟨none, 0, rfl, RB.nil _ _ _, (by repeat (first | exact bR | refine bO ?_ | refine bA ?_ | refine bS ?_ | refine bD ?_ | refine bN ?_))⟩
  · rw [if_pos ⟨rfl, rfl⟩] at hk
    have HK := Lib.hid hk
    clear hk
    have P := roomOk_parts H1.out
    go_enter Tryz.func26, Tryz.ntmps26
    go_wp2_with fail
    obtain ⟨V, hV⟩ : ∃ V, (((w.alloc (.cells #[.slice Ar1 r.m.length cr1, .int .i64 r.q, .int .i64 r.bx, .int .i64 r.by_, .int .i64 r.lo, .int .i64 r.hi, .slice Ar2 r.ns.length cr2, .slice Ar3 r.ls.length cr3] 28)).alloc (.cells #[.slice Ap p.length cp] 26)).alloc (.cells #[.slice none 0 0] 26)) = V := ⟨_, rfl⟩
    have TV : Below w.heap.size w V := by rw [← hV]; exact (by repeat (first | exact bR | refine bO ?_ | refine bA ?_ | refine bS ?_ | refine bD ?_ | refine bN ?_))
    have X0 : V.heap[w.heap.size]? = some (.cells #[.slice Ar1 r.m.length cr1, .int .i64 r.q, .int .i64 r.bx, .int .i64 r.by_, .int .i64 r.lo, .int .i64 r.hi, .slice Ar2 r.ns.length cr2, .slice Ar3 r.ls.length cr3] 28 (0, 0)) := by rw [← hV]; exact ((heap_old_at (by first | (simp; done) | (simp <;> omega))).trans ((heap_old_at (by first | (simp; done) | (simp <;> omega))).trans (heap_new_at (by first | (simp; done) | (simp <;> omega)) rfl)))
    have X1 : V.heap[w.heap.size + 1]? = some (.cells #[.slice Ap p.length cp] 26 (0, 0)) := by rw [← hV]; exact ((heap_old_at (by first | (simp; done) | (simp <;> omega))).trans (heap_new_at (by first | (simp; done) | (simp <;> omega)) rfl))
    have X2 : V.heap[w.heap.size + 1 + 1]? = some (.cells #[.slice none 0 0] 26 (0, 0)) := by rw [← hV]; exact (heap_new_at (by first | (simp; done) | (simp <;> omega)) rfl)
    rw [hV]
    clear hV
    have hbb2 : w.heap.size ≤ w.heap.size + 1 + 1 := by omega
    generalize w.heap.size + 1 + 1 = ba2 at X2 hbb2 ⊢
    have hbb1 : w.heap.size ≤ w.heap.size + 1 := by omega
    generalize w.heap.size + 1 = ba1 at X1 hbb1 ⊢
    obtain ⟨W0, hW⟩ : ∃ W0, W0 = V := ⟨_, rfl⟩
    rw [← hW]
    have T : Below V.heap.size V W0 := by rw [hW]; exact Below.refl _ _
    clear hW
    have Br := box_below (Lib.hid X0) T
    clear X0
    have Bp := box_below (Lib.hid X1) T
    clear X1
    have Bo := box_below (Lib.hid X2) T
    clear X2
    have s0 : w.heap.size ≤ V.heap.size := TV.size
    obtain ⟨ba0, hba0⟩ : ∃ b, w.heap.size = b := ⟨_, rfl⟩
    rw [hba0] at Br
    try rw [hba0]
    have Sr := Rr.below (TV.trans (T.mono s0))
    have Sp := Rp.below (TV.trans (T.mono s0))
    refine (calls_ov (impl_RoomOk_eq (Sr.below (by repeat (first | exact bR | refine bO ?_ | refine bA ?_ | refine bS ?_ | refine bD ?_ | refine bN ?_))) hsr H1)).mono ?_
    rintro e w' ⟨rfl, x, rfl⟩
    obtain ⟨W1, hW⟩ : ∃ W1, W1 = ov W0 x := ⟨_, rfl⟩
    rw [← hW]
    have K : Below W0.heap.size W0 W1 := by rw [hW]; exact (by repeat (first | exact bR | refine bO ?_ | refine bA ?_ | refine bS ?_ | refine bD ?_ | refine bN ?_))
    clear hW
    replace T := T.trans (K.mono T.size)
    replace Br := box_below Br K
    replace Bp := box_below Bp K
    replace Bo := box_below Bo K
    clear K Sr Sp
    have Sr := Rr.below (TV.trans (T.mono s0))
    have Sp := Rp.below (TV.trans (T.mono s0))
    obtain ⟨Brc0, Brc1, Brc2, Brc3, Brc4, Brc5, Brc6, Brc7, Brl⟩ := cb8 Br
    obtain ⟨Bpc0, Bpl⟩ := cb1 Bp
    obtain ⟨Boc0, Bol⟩ := cb1 Bo
    have Bof0 := frozen_blk (j := 0) Bo.out
    go_wp2_with fail
    clear Brc0 Brc1 Brc2 Brc3 Brc4 Brc5 Brc6 Brc7 Bpc0 Boc0 Brl Bpl Bol
    clear Bof0
    refine (calls_ov (impl_RegionOk_eq (Sp.below (by repeat (first | exact bR | refine bO ?_ | refine bA ?_ | refine bS ?_ | refine bD ?_ | refine bN ?_))) (by first | omega | exact hlp) H2)).mono ?_
    rintro e w' ⟨rfl, x, rfl⟩
    obtain ⟨W2, hW⟩ : ∃ W2, W2 = ov W1 x := ⟨_, rfl⟩
    rw [← hW]
    have K : Below W1.heap.size W1 W2 := by rw [hW]; exact (by repeat (first | exact bR | refine bO ?_ | refine bA ?_ | refine bS ?_ | refine bD ?_ | refine bN ?_))
    clear hW
    replace T := T.trans (K.mono T.size)
    replace Br := box_below Br K
    replace Bp := box_below Bp K
    replace Bo := box_below Bo K
    clear K Sr Sp
    have Sr := Rr.below (TV.trans (T.mono s0))
    have Sp := Rp.below (TV.trans (T.mono s0))
    obtain ⟨Brc0, Brc1, Brc2, Brc3, Brc4, Brc5, Brc6, Brc7, Brl⟩ := cb8 Br
    obtain ⟨Bpc0, Bpl⟩ := cb1 Bp
    obtain ⟨Boc0, Bol⟩ := cb1 Bo
    have Bof0 := frozen_blk (j := 0) Bo.out
    go_wp2_with fail
    clear Brc0 Brc1 Brc2 Brc3 Brc4 Brc5 Brc6 Brc7 Bpc0 Boc0 Brl Bpl Bol
    clear Bof0
    refine (impl_pre_eq (Sr.below (by repeat (first | exact bR | refine bO ?_ | refine bA ?_ | refine bS ?_ | refine bD ?_ | refine bN ?_))) hsr (Sp.below (by repeat (first | exact bR | refine bO ?_ | refine bA ?_ | refine bS ?_ | refine bD ?_ | refine bN ?_))) P H2.out HK).mono ?_
    rintro e W3 ⟨aq, dq, rfl, Xq, hb⟩
    have K : Below W2.heap.size W2 W3 := Below.trans (by repeat (first | exact bR | refine bO ?_ | refine bA ?_ | refine bS ?_ | refine bD ?_ | refine bN ?_)) (hb.mono (by first | exact Nat.le_refl _ | simp [ov_size]))
    replace Xq := Xq.weak (B' := V.heap.size) (by have := T.size; (try simp [ov_size]); omega)
    clear hb
    replace T := T.trans (K.mono T.size)
    replace Br := box_below Br K
    replace Bp := box_below Bp K
    replace Bo := box_below Bo K
    clear K Sr Sp
    have Sr := Rr.below (TV.trans (T.mono s0))
    have Sp := Rp.below (TV.trans (T.mono s0))
    obtain ⟨Brc0, Brc1, Brc2, Brc3, Brc4, Brc5, Brc6, Brc7, Brl⟩ := cb8 Br
    obtain ⟨Bpc0, Bpl⟩ := cb1 Bp
    obtain ⟨Boc0, Bol⟩ := cb1 Bo
    have Bof0 := frozen_blk (j := 0) Bo.out
    go_wp2
    refine bodyPost_ret (v := .tuple #[.agg #[.slice aq out.length dq], .bool ok]) (by simp [results, Tryz.results26, go_sem, Boc0, Bol]) rfl ⟨aq, dq, rfl, (Xq.weak s0).set_box Bo.out (by decide), (TV.trans (T.mono s0)).setCell hbb2 _⟩

set_option maxRecDepth 100000 in
set_option maxHeartbeats 8000000 in
theorem impl_keep_eq {r : RoomV} {Ar1 Ar2 Ar3 : Option Addr} {cr1 cr2 cr3 : Nat} {p : List H3} {Ap : Option Addr} {cp : Nat} {w : World} {out : List H3} {ok : Bool} (Rr : RM w r Ar1 Ar2 cr2 Ar3 cr3) (hsr : r.Short) (Rp : R3 44 w Ap cp p) (P : RoomP r) (kp : regionOk p = true) (hr : Hid (keepM r p = (out, ok))) :
    Calls Tryz.prog 61 #[.agg #[.slice Ar1 r.m.length cr1, .int .i64 r.q, .int .i64 r.bx, .int .i64 r.by_, .int .i64 r.lo, .int .i64 r.hi, .slice Ar2 r.ns.length cr2, .slice Ar3 r.ls.length cr3], .agg #[.slice Ap p.length cp]] w (RegPost w out ok) := by
  have hk := hr.out
  unfold keepM at hk
  have lp := (region_good kp).2
  clear hr
  obtain ⟨⟨e, v1⟩, h1⟩ : ∃ s, preM r p = s := ⟨_, rfl⟩
  rw [h1] at hk
  have H1 := Lib.hid h1
  cases v1 with
  | false =>
    rw [thenL_false rfl, Prod.mk.injEq] at hk
    obtain ⟨rfl, rfl⟩ := hk
    clear h1
    go_enter Tryz.func61, Tryz.ntmps61
    go_wp2_with fail
    obtain ⟨V, hV⟩ : ∃ V, (((w.alloc (.cells #[.slice Ar1 r.m.length cr1, .int .i64 r.q, .int .i64 r.bx, .int .i64 r.by_, .int .i64 r.lo, .int .i64 r.hi, .slice Ar2 r.ns.length cr2, .slice Ar3 r.ls.length cr3] 28)).alloc (.cells #[.slice Ap p.length cp] 26)).alloc (.cells #[.slice none 0 0] 26)) = V := ⟨_, rfl⟩
    have TV : Below w.heap.size w V := by rw [← hV]; exact (by repeat (first | exact bR | refine bO ?_ | refine bA ?_ | refine bS ?_ | refine bD ?_ | refine bN ?_))
    have X0 : V.heap[w.heap.size]? = some (.cells #[.slice Ar1 r.m.length cr1, .int .i64 r.q, .int .i64 r.bx, .int .i64 r.by_, .int .i64 r.lo, .int .i64 r.hi, .slice Ar2 r.ns.length cr2, .slice Ar3 r.ls.length cr3] 28 (0, 0)) := by rw [← hV]; exact ((heap_old_at (by first | (simp; done) | (simp <;> omega))).trans ((heap_old_at (by first | (simp; done) | (simp <;> omega))).trans (heap_new_at (by first | (simp; done) | (simp <;> omega)) rfl)))
    have X1 : V.heap[w.heap.size + 1]? = some (.cells #[.slice Ap p.length cp] 26 (0, 0)) := by rw [← hV]; exact ((heap_old_at (by first | (simp; done) | (simp <;> omega))).trans (heap_new_at (by first | (simp; done) | (simp <;> omega)) rfl))
    have X2 : V.heap[w.heap.size + 1 + 1]? = some (.cells #[.slice none 0 0] 26 (0, 0)) := by rw [← hV]; exact (heap_new_at (by first | (simp; done) | (simp <;> omega)) rfl)
    rw [hV]
    clear hV
    have hbb2 : w.heap.size ≤ w.heap.size + 1 + 1 := by omega
    generalize w.heap.size + 1 + 1 = ba2 at X2 hbb2 ⊢
    have hbb1 : w.heap.size ≤ w.heap.size + 1 := by omega
    generalize w.heap.size + 1 = ba1 at X1 hbb1 ⊢
    obtain ⟨W0, hW⟩ : ∃ W0, W0 = V := ⟨_, rfl⟩
    rw [← hW]
    have T : Below V.heap.size V W0 := by rw [hW]; exact Below.refl _ _
    clear hW
    have Br := box_below (Lib.hid X0) T
    clear X0
    have Bp := box_below (Lib.hid X1) T
    clear X1
    have Bo := box_below (Lib.hid X2) T
    clear X2
    have s0 : w.heap.size ≤ V.heap.size := TV.size
    obtain ⟨ba0, hba0⟩ : ∃ b, w.heap.size = b := ⟨_, rfl⟩
    rw [hba0] at Br
    try rw [hba0]
    have Sr := Rr.below (TV.trans (T.mono s0))
    have Sp := Rp.below (TV.trans (T.mono s0))
    refine (impl_pre_eq (Sr.below (by repeat (first | exact bR | refine bO ?_ | refine bA ?_ | refine bS ?_ | refine bD ?_ | refine bN ?_))) hsr (Sp.below (by repeat (first | exact bR | refine bO ?_ | refine bA ?_ | refine bS ?_ | refine bD ?_ | refine bN ?_))) P kp H1).mono ?_
    rintro e W1 ⟨ae, de, rfl, Xe, hb⟩
    have K : Below W0.heap.size W0 W1 := Below.trans (by repeat (first | exact bR | refine bO ?_ | refine bA ?_ | refine bS ?_ | refine bD ?_ | refine bN ?_)) (hb.mono (by first | exact Nat.le_refl _ | simp [ov_size]))
    replace Xe := Xe.weak (B' := V.heap.size) (by have := T.size; (try simp [ov_size]); omega)
    clear hb
    replace T := T.trans (K.mono T.size)
    replace Br := box_below Br K
    replace Bp := box_below Bp K
    replace Bo := box_below Bo K
    clear K Sr Sp
    have Sr := Rr.below (TV.trans (T.mono s0))
    have Sp := Rp.below (TV.trans (T.mono s0))
    obtain ⟨Brc0, Brc1, Brc2, Brc3, Brc4, Brc5, Brc6, Brc7, Brl⟩ := cb8 Br
    obtain ⟨Bpc0, Bpl⟩ := cb1 Bp
    obtain ⟨Boc0, Bol⟩ := cb1 Bo
    have Bof0 := frozen_blk (j := 0) Bo.out
    go_wp2
    refine bodyPost_ret (v := .tuple #[.agg #[.slice none 0 0], .bool false]) (by simp [results, Tryz.results61, go_sem, Boc0, Bol]) rfl ⟨none, 0, rfl, RB.nil _ _ _, ?_⟩
    exact (by repeat (first | exact TV.trans (T.mono s0) | refine bO ?_ | refine bA ?_ | refine bS ?_ | refine bD ?_ | refine bN ?_))
  | true =>
    rw [thenL_true (x := (e, true)) rfl] at hk
    have HK := Lib.hid hk
    have ke := preM_len h1
    clear h1 hk
    go_enter Tryz.func61, Tryz.ntmps61
    go_wp2_with fail
    obtain ⟨V, hV⟩ : ∃ V, (((w.alloc (.cells #[.slice Ar1 r.m.length cr1, .int .i64 r.q, .int .i64 r.bx, .int .i64 r.by_, .int .i64 r.lo, .int .i64 r.hi, .slice Ar2 r.ns.length cr2, .slice Ar3 r.ls.length cr3] 28)).alloc (.cells #[.slice Ap p.length cp] 26)).alloc (.cells #[.slice none 0 0] 26)) = V := ⟨_, rfl⟩
    have TV : Below w.heap.size w V := by rw [← hV]; exact (by repeat (first | exact bR | refine bO ?_ | refine bA ?_ | refine bS ?_ | refine bD ?_ | refine bN ?_))
    have X0 : V.heap[w.heap.size]? = some (.cells #[.slice Ar1 r.m.length cr1, .int .i64 r.q, .int .i64 r.bx, .int .i64 r.by_, .int .i64 r.lo, .int .i64 r.hi, .slice Ar2 r.ns.length cr2, .slice Ar3 r.ls.length cr3] 28 (0, 0)) := by rw [← hV]; exact ((heap_old_at (by first | (simp; done) | (simp <;> omega))).trans ((heap_old_at (by first | (simp; done) | (simp <;> omega))).trans (heap_new_at (by first | (simp; done) | (simp <;> omega)) rfl)))
    have X1 : V.heap[w.heap.size + 1]? = some (.cells #[.slice Ap p.length cp] 26 (0, 0)) := by rw [← hV]; exact ((heap_old_at (by first | (simp; done) | (simp <;> omega))).trans (heap_new_at (by first | (simp; done) | (simp <;> omega)) rfl))
    have X2 : V.heap[w.heap.size + 1 + 1]? = some (.cells #[.slice none 0 0] 26 (0, 0)) := by rw [← hV]; exact (heap_new_at (by first | (simp; done) | (simp <;> omega)) rfl)
    rw [hV]
    clear hV
    have hbb2 : w.heap.size ≤ w.heap.size + 1 + 1 := by omega
    generalize w.heap.size + 1 + 1 = ba2 at X2 hbb2 ⊢
    have hbb1 : w.heap.size ≤ w.heap.size + 1 := by omega
    generalize w.heap.size + 1 = ba1 at X1 hbb1 ⊢
    obtain ⟨W0, hW⟩ : ∃ W0, W0 = V := ⟨_, rfl⟩
    rw [← hW]
    have T : Below V.heap.size V W0 := by rw [hW]; exact Below.refl _ _
    clear hW
    have Br := box_below (Lib.hid X0) T
    clear X0
    have Bp := box_below (Lib.hid X1) T
    clear X1
    have Bo := box_below (Lib.hid X2) T
    clear X2
    have s0 : w.heap.size ≤ V.heap.size := TV.size
    obtain ⟨ba0, hba0⟩ : ∃ b, w.heap.size = b := ⟨_, rfl⟩
    rw [hba0] at Br
    try rw [hba0]
    have Sr := Rr.below (TV.trans (T.mono s0))
    have Sp := Rp.below (TV.trans (T.mono s0))
    refine (impl_pre_eq (Sr.below (by repeat (first | exact bR | refine bO ?_ | refine bA ?_ | refine bS ?_ | refine bD ?_ | refine bN ?_))) hsr (Sp.below (by repeat (first | exact bR | refine bO ?_ | refine bA ?_ | refine bS ?_ | refine bD ?_ | refine bN ?_))) P kp H1).mono ?_
    rintro e W2 ⟨ae, de, rfl, Xe, hb⟩
    have K : Below W0.heap.size W0 W2 := Below.trans (by repeat (first | exact bR | refine bO ?_ | refine bA ?_ | refine bS ?_ | refine bD ?_ | refine bN ?_)) (hb.mono (by first | exact Nat.le_refl _ | simp [ov_size]))
    replace Xe := Xe.weak (B' := V.heap.size) (by have := T.size; (try simp [ov_size]); omega)
    clear hb
    replace T := T.trans (K.mono T.size)
    replace Br := box_below Br K
    replace Bp := box_below Bp K
    replace Bo := box_below Bo K
    clear K Sr Sp
    have Sr := Rr.below (TV.trans (T.mono s0))
    have Sp := Rp.below (TV.trans (T.mono s0))
    obtain ⟨Brc0, Brc1, Brc2, Brc3, Brc4, Brc5, Brc6, Brc7, Brl⟩ := cb8 Br
    obtain ⟨Bpc0, Bpl⟩ := cb1 Bp
    obtain ⟨Boc0, Bol⟩ := cb1 Bo
    have Bof0 := frozen_blk (j := 0) Bo.out
    go_wp2_with fail
    clear Brc0 Brc1 Brc2 Brc3 Brc4 Brc5 Brc6 Brc7 Bpc0 Boc0 Brl Bpl Bol
    clear Bof0
    obtain ⟨be, hbx⟩ : ∃ b, b = W2.heap.size := ⟨_, rfl⟩
    rw [← hbx]
    obtain ⟨W3, hW⟩ : ∃ W, W = W2.alloc (.cells #[.slice ae e.length de] 26) := ⟨_, rfl⟩
    rw [← hW]
    have K : Below W2.heap.size W2 W3 := by rw [hW]; exact (by repeat (first | exact bR | refine bO ?_ | refine bA ?_ | refine bS ?_ | refine bD ?_ | refine bN ?_))
    have Be := Lib.hid (show W3.heap[be]? = some (.cells #[.slice ae e.length de] 26 (0, 0)) by rw [hW, hbx]; exact heap_alloc_new _ _)
    clear hW hbx
    replace T := T.trans (K.mono T.size)
    replace Br := box_below Br K
    replace Bp := box_below Bp K
    replace Bo := box_below Bo K
    replace Xe := Xe.below K
    clear K Sr Sp
    have Sr := Rr.below (TV.trans (T.mono s0))
    have Sp := Rp.below (TV.trans (T.mono s0))
    obtain ⟨Brc0, Brc1, Brc2, Brc3, Brc4, Brc5, Brc6, Brc7, Brl⟩ := cb8 Br
    obtain ⟨Bpc0, Bpl⟩ := cb1 Bp
    obtain ⟨Boc0, Bol⟩ := cb1 Bo
    obtain ⟨Bec0, Bel⟩ := cb1 Be
    have Bof0 := frozen_blk (j := 0) Bo.out
    go_wp2_with fail
    clear Brc0 Brc1 Brc2 Brc3 Brc4 Brc5 Brc6 Brc7 Bpc0 Boc0 Bec0 Brl Bpl Bol Bel
    clear Bof0
    refine (impl_MeetRegions_eq (Sp.below (by repeat (first | exact bR | refine bO ?_ | refine bA ?_ | refine bS ?_ | refine bD ?_ | refine bN ?_))) ((Xe.below (by repeat (first | exact bR | refine bO ?_ | refine bA ?_ | refine bS ?_ | refine bD ?_ | refine bN ?_))).r3) (by omega) (by omega) HK).mono ?_
    rintro e W4 ⟨aq, dq, rfl, Xq, hb⟩
    have K : Below W3.heap.size W3 W4 := Below.trans (by repeat (first | exact bR | refine bO ?_ | refine bA ?_ | refine bS ?_ | refine bD ?_ | refine bN ?_)) (hb.mono (by first | exact Nat.le_refl _ | simp [ov_size]))
    replace Xq := Xq.weak (B' := V.heap.size) (by have := T.size; (try simp [ov_size]); omega)
    clear hb
    replace T := T.trans (K.mono T.size)
    replace Br := box_below Br K
    replace Bp := box_below Bp K
    replace Bo := box_below Bo K
    replace Be := box_below Be K
    replace Xe := Xe.below K
    clear K Sr Sp
    have Sr := Rr.below (TV.trans (T.mono s0))
    have Sp := Rp.below (TV.trans (T.mono s0))
    obtain ⟨Brc0, Brc1, Brc2, Brc3, Brc4, Brc5, Brc6, Brc7, Brl⟩ := cb8 Br
    obtain ⟨Bpc0, Bpl⟩ := cb1 Bp
    obtain ⟨Boc0, Bol⟩ := cb1 Bo
    obtain ⟨Bec0, Bel⟩ := cb1 Be
    have Bof0 := frozen_blk (j := 0) Bo.out
    go_wp2
    refine bodyPost_ret (v := .tuple #[.agg #[.slice aq out.length dq], .bool ok]) (by simp [results, Tryz.results61, go_sem, Boc0, Bol]) rfl ⟨aq, dq, rfl, (Xq.weak s0).set_box Bo.out (by decide), (TV.trans (T.mono s0)).setCell hbb2 _⟩

set_option maxRecDepth 100000 in
set_option maxHeartbeats 8000000 in
theorem impl_KeepRegion_eq {r : RoomV} {Ar1 Ar2 Ar3 : Option Addr} {cr1 cr2 cr3 : Nat} {p : List H3} {Ap : Option Addr} {cp : Nat} {w : World} {out : List H3} {ok : Bool} (Rr : RM w r Ar1 Ar2 cr2 Ar3 cr3) (hsr : r.Short) (Rp : R3 44 w Ap cp p) (hlp : p.length ≤ 1000000000) (hr : Hid (keepR r p = (out, ok))) :
    Calls Tryz.prog 28 #[.agg #[.slice Ar1 r.m.length cr1, .int .i64 r.q, .int .i64 r.bx, .int .i64 r.by_, .int .i64 r.lo, .int .i64 r.hi, .slice Ar2 r.ns.length cr2, .slice Ar3 r.ls.length cr3], .agg #[.slice Ap p.length cp]] w (RegPost w out ok) := by
  obtain ⟨t1, h1⟩ : ∃ t, roomOk r = t := ⟨_, rfl⟩
  obtain ⟨t2, h2⟩ : ∃ t, regionOk p = t := ⟨_, rfl⟩
  have hk := hr.out
  unfold keepR at hk
  rw [h1, h2] at hk
  have H1 := Lib.hid h1
  have H2 := Lib.hid h2
  clear hr h1 h2
  have hc : (t1 = false ∨ (t1 = true ∧ t2 = false)) ∨ (t1 = true ∧ t2 = true) := by cases t1 <;> cases t2 <;> simp
  rcases hc with hc | ⟨rfl, rfl⟩
  · rw [if_neg (by rcases hc with rfl | ⟨rfl, rfl⟩ <;> simp)] at hk
    simp at hk
    obtain ⟨rfl, rfl⟩ := hk
    rcases hc with rfl | ⟨rfl, rfl⟩
    all_goals
      go_enter Tryz.func28, Tryz.ntmps28
      go_wp2_with (first | (go_at_call 13; (first | (with_reducible refine (calls_ov2 (impl_RoomOk_eq (Rr.below (by repeat (first | exact bR | refine bO ?_ | refine bA ?_ | refine bS ?_ | refine bD ?_ | refine bN ?_))) hsr H1)).mono ?_) | refine (calls_ov (impl_RoomOk_eq (Rr.below (by repeat (first | exact bR | refine bO ?_ | refine bA ?_ | refine bS ?_ | refine bD ?_ | refine bN ?_))) hsr H1)).mono ?_); rintro e w' ⟨rfl, x, rfl⟩) | (go_at_call 51; (first | (with_reducible refine (calls_ov2 (impl_RegionOk_eq (Rp.below (by repeat (first | exact bR | refine bO ?_ | refine bA ?_ | refine bS ?_ | refine bD ?_ | refine bN ?_))) (by first | omega | exact hlp) H2)).mono ?_) | refine (calls_ov (impl_RegionOk_eq (Rp.below (by repeat (first | exact bR | refine bO ?_ | refine bA ?_ | refine bS ?_ | refine bD ?_ | refine bN ?_))) (by first | omega | exact hlp) H2)).mono ?_); rintro e w' ⟨rfl, x, rfl⟩))
      refine bodyPost_ret (v := .tuple #[.agg #[.slice none 0 0], .bool false]) (by simp [results, Tryz.results28, go_sem]) rfl ⟨none, 0, rfl, RB.nil _ _ _, (by repeat (first | exact bR | refine bO ?_ | refine bA ?_ | refine bS ?_ | refine bD ?_ | refine bN ?_))⟩
  · rw [if_pos ⟨rfl, rfl⟩] at hk
    have HK := Lib.hid hk
    clear hk
    have P := roomOk_parts H1.out
    go_enter Tryz.func28, Tryz.ntmps28
    go_wp2_with fail
    obtain ⟨V, hV⟩ : ∃ V, (((w.alloc (.cells #[.slice Ar1 r.m.length cr1, .int .i64 r.q, .int .i64 r.bx, .int .i64 r.by_, .int .i64 r.lo, .int .i64 r.hi, .slice Ar2 r.ns.length cr2, .slice Ar3 r.ls.length cr3] 28)).alloc (.cells #[.slice Ap p.length cp] 26)).alloc (.cells #[.slice none 0 0] 26)) = V := ⟨_, rfl⟩
    have TV : Below w.heap.size w V := by rw [← hV]; exact (by repeat (first | exact bR | refine bO ?_ | refine bA ?_ | refine bS ?_ | refine bD ?_ | refine bN ?_))
    have X0 : V.heap[w.heap.size]? = some (.cells #[.slice Ar1 r.m.length cr1, .int .i64 r.q, .int .i64 r.bx, .int .i64 r.by_, .int .i64 r.lo, .int .i64 r.hi, .slice Ar2 r.ns.length cr2, .slice Ar3 r.ls.length cr3] 28 (0, 0)) := by rw [← hV]; exact ((heap_old_at (by first | (simp; done) | (simp <;> omega))).trans ((heap_old_at (by first | (simp; done) | (simp <;> omega))).trans (heap_new_at (by first | (simp; done) | (simp <;> omega)) rfl)))
    have X1 : V.heap[w.heap.size + 1]? = some (.cells #[.slice Ap p.length cp] 26 (0, 0)) := by rw [← hV]; exact ((heap_old_at (by first | (simp; done) | (simp <;> omega))).trans (heap_new_at (by first | (simp; done) | (simp <;> omega)) rfl))
    have X2 : V.heap[w.heap.size + 1 + 1]? = some (.cells #[.slice none 0 0] 26 (0, 0)) := by rw [← hV]; exact (heap_new_at (by first | (simp; done) | (simp <;> omega)) rfl)
    rw [hV]
    clear hV
    have hbb2 : w.heap.size ≤ w.heap.size + 1 + 1 := by omega
    generalize w.heap.size + 1 + 1 = ba2 at X2 hbb2 ⊢
    have hbb1 : w.heap.size ≤ w.heap.size + 1 := by omega
    generalize w.heap.size + 1 = ba1 at X1 hbb1 ⊢
    obtain ⟨W0, hW⟩ : ∃ W0, W0 = V := ⟨_, rfl⟩
    rw [← hW]
    have T : Below V.heap.size V W0 := by rw [hW]; exact Below.refl _ _
    clear hW
    have Br := box_below (Lib.hid X0) T
    clear X0
    have Bp := box_below (Lib.hid X1) T
    clear X1
    have Bo := box_below (Lib.hid X2) T
    clear X2
    have s0 : w.heap.size ≤ V.heap.size := TV.size
    obtain ⟨ba0, hba0⟩ : ∃ b, w.heap.size = b := ⟨_, rfl⟩
    rw [hba0] at Br
    try rw [hba0]
    have Sr := Rr.below (TV.trans (T.mono s0))
    have Sp := Rp.below (TV.trans (T.mono s0))
    refine (calls_ov (impl_RoomOk_eq (Sr.below (by repeat (first | exact bR | refine bO ?_ | refine bA ?_ | refine bS ?_ | refine bD ?_ | refine bN ?_))) hsr H1)).mono ?_
    rintro e w' ⟨rfl, x, rfl⟩
    obtain ⟨W1, hW⟩ : ∃ W1, W1 = ov W0 x := ⟨_, rfl⟩
    rw [← hW]
    have K : Below W0.heap.size W0 W1 := by rw [hW]; exact (by repeat (first | exact bR | refine bO ?_ | refine bA ?_ | refine bS ?_ | refine bD ?_ | refine bN ?_))
    clear hW
    replace T := T.trans (K.mono T.size)
    replace Br := box_below Br K
    replace Bp := box_below Bp K
    replace Bo := box_below Bo K
    clear K Sr Sp
    have Sr := Rr.below (TV.trans (T.mono s0))
    have Sp := Rp.below (TV.trans (T.mono s0))
    obtain ⟨Brc0, Brc1, Brc2, Brc3, Brc4, Brc5, Brc6, Brc7, Brl⟩ := cb8 Br
    obtain ⟨Bpc0, Bpl⟩ := cb1 Bp
    obtain ⟨Boc0, Bol⟩ := cb1 Bo
    have Bof0 := frozen_blk (j := 0) Bo.out
    go_wp2_with fail
    clear Brc0 Brc1 Brc2 Brc3 Brc4 Brc5 Brc6 Brc7 Bpc0 Boc0 Brl Bpl Bol
    clear Bof0
    refine (calls_ov (impl_RegionOk_eq (Sp.below (by repeat (first | exact bR | refine bO ?_ | refine bA ?_ | refine bS ?_ | refine bD ?_ | refine bN ?_))) (by first | omega | exact hlp) H2)).mono ?_
    rintro e w' ⟨rfl, x, rfl⟩
    obtain ⟨W2, hW⟩ : ∃ W2, W2 = ov W1 x := ⟨_, rfl⟩
    rw [← hW]
    have K : Below W1.heap.size W1 W2 := by rw [hW]; exact (by repeat (first | exact bR | refine bO ?_ | refine bA ?_ | refine bS ?_ | refine bD ?_ | refine bN ?_))
    clear hW
    replace T := T.trans (K.mono T.size)
    replace Br := box_below Br K
    replace Bp := box_below Bp K
    replace Bo := box_below Bo K
    clear K Sr Sp
    have Sr := Rr.below (TV.trans (T.mono s0))
    have Sp := Rp.below (TV.trans (T.mono s0))
    obtain ⟨Brc0, Brc1, Brc2, Brc3, Brc4, Brc5, Brc6, Brc7, Brl⟩ := cb8 Br
    obtain ⟨Bpc0, Bpl⟩ := cb1 Bp
    obtain ⟨Boc0, Bol⟩ := cb1 Bo
    have Bof0 := frozen_blk (j := 0) Bo.out
    go_wp2_with fail
    clear Brc0 Brc1 Brc2 Brc3 Brc4 Brc5 Brc6 Brc7 Bpc0 Boc0 Brl Bpl Bol
    clear Bof0
    refine (impl_keep_eq (Sr.below (by repeat (first | exact bR | refine bO ?_ | refine bA ?_ | refine bS ?_ | refine bD ?_ | refine bN ?_))) hsr (Sp.below (by repeat (first | exact bR | refine bO ?_ | refine bA ?_ | refine bS ?_ | refine bD ?_ | refine bN ?_))) P H2.out HK).mono ?_
    rintro e W3 ⟨aq, dq, rfl, Xq, hb⟩
    have K : Below W2.heap.size W2 W3 := Below.trans (by repeat (first | exact bR | refine bO ?_ | refine bA ?_ | refine bS ?_ | refine bD ?_ | refine bN ?_)) (hb.mono (by first | exact Nat.le_refl _ | simp [ov_size]))
    replace Xq := Xq.weak (B' := V.heap.size) (by have := T.size; (try simp [ov_size]); omega)
    clear hb
    replace T := T.trans (K.mono T.size)
    replace Br := box_below Br K
    replace Bp := box_below Bp K
    replace Bo := box_below Bo K
    clear K Sr Sp
    have Sr := Rr.below (TV.trans (T.mono s0))
    have Sp := Rp.below (TV.trans (T.mono s0))
    obtain ⟨Brc0, Brc1, Brc2, Brc3, Brc4, Brc5, Brc6, Brc7, Brl⟩ := cb8 Br
    obtain ⟨Bpc0, Bpl⟩ := cb1 Bp
    obtain ⟨Boc0, Bol⟩ := cb1 Bo
    have Bof0 := frozen_blk (j := 0) Bo.out
    go_wp2
    refine bodyPost_ret (v := .tuple #[.agg #[.slice aq out.length dq], .bool ok]) (by simp [results, Tryz.results28, go_sem, Boc0, Bol]) rfl ⟨aq, dq, rfl, (Xq.weak s0).set_box Bo.out (by decide), (TV.trans (T.mono s0)).setCell hbb2 _⟩
end Go.Proofs.YtabmfaamadbefaaGreat