/- Contract of GrowAlong of the reference. No condition but that the arguments are ints. -/
import Derived.Test.YtgdleimdenbnlaaGreatGt
set_option linter.unusedVariables false
set_option linter.unusedSimpArgs false
set_option linter.unusedSectionVars false
namespace Go.Proofs.YtgdleimdenbnlaaGreat
open Go.RowKit
set_option maxRecDepth 100000 in
set_option maxHeartbeats 8000000 in
theorem spec_GrowAlong_eq {ps : List H3} {Aps : Option Addr} {cps : Nat} {bx : Int} {bY : Int} {lo : Int} {hi : Int} {w : World} {out : List H3} {ok : Bool} (Rps : R3 99 w Aps cps ps) (hl : ps.length ≤ 1000000000) (hr : Hid (growR ps bx bY lo hi = (out, ok))) :
    Calls Tryz.prog 81 #[.agg #[.slice Aps ps.length cps], .int .i64 bx, .int .i64 bY, .int .i64 lo, .int .i64 hi] w (RegPost w out ok) := by
  have hr' := hr.out
  unfold growR growOk rangeB at hr'
  clear hr
  obtain ⟨t1, h1⟩ : ∃ t, inR bx (-100) 100 = t := ⟨_, rfl⟩
  obtain ⟨t2, h2⟩ : ∃ t, inR bY (-100) 100 = t := ⟨_, rfl⟩
  obtain ⟨t3, h3⟩ : ∃ t, inR lo (-1000) 1000 = t := ⟨_, rfl⟩
  obtain ⟨t4, h4⟩ : ∃ t, inR hi lo 1000 = t := ⟨_, rfl⟩
  obtain ⟨t5, h5⟩ : ∃ t, regionOk ps = t := ⟨_, rfl⟩
  rw [h1, h2, h3, h4, h5] at hr'
  have H1 := Lib.hid h1
  have H2 := Lib.hid h2
  have H3 := Lib.hid h3
  have H4 := Lib.hid h4
  have H5 := Lib.hid h5
  have hc : (¬ (t1 && t2 && (t3 && t4) && decide (ps.length ≤ 38) && t5) = true ∧ (t5 = false ∨ (t5 = true ∧ (38 : Int) < (ps.length : Int)) ∨ (t5 = true ∧ ¬ (38 : Int) < (ps.length : Int) ∧ t1 = false) ∨ (t5 = true ∧ ¬ (38 : Int) < (ps.length : Int) ∧ t1 = true ∧ t2 = false) ∨ (t5 = true ∧ ¬ (38 : Int) < (ps.length : Int) ∧ t1 = true ∧ t2 = true ∧ t3 = false) ∨ (t5 = true ∧ ¬ (38 : Int) < (ps.length : Int) ∧ t1 = true ∧ t2 = true ∧ t3 = true ∧ t4 = false))) ∨ ((t1 && t2 && (t3 && t4) && decide (ps.length ≤ 38) && t5) = true ∧ t5 = true ∧ ¬ (38 : Int) < (ps.length : Int) ∧ t1 = true ∧ t2 = true ∧ t3 = true ∧ t4 = true) := by
    by_cases q : ps.length ≤ 38
    · have q' : ¬ (38 : Int) < (ps.length : Int) := by omega
      cases t1 <;> cases t2 <;> cases t3 <;> cases t4 <;> cases t5 <;> simp [q, q']
    · have q' : (38 : Int) < (ps.length : Int) := by omega
      cases t1 <;> cases t2 <;> cases t3 <;> cases t4 <;> cases t5 <;> simp [q, q']
  rcases hc with ⟨hf, hc⟩ | ⟨ht, rfl, q4, rfl, rfl, rfl, rfl⟩
  · rw [if_neg hf] at hr'
    simp at hr'
    obtain ⟨rfl, rfl⟩ := hr'
    clear hf h1 h2 h3 h4 h5
    rcases hc with rfl | ⟨rfl, q4⟩ | ⟨rfl, q4, rfl⟩ | ⟨rfl, q4, rfl, rfl⟩ | ⟨rfl, q4, rfl, rfl, rfl⟩ | ⟨rfl, q4, rfl, rfl, rfl, rfl⟩
    all_goals
      go_enter Tryz.func81, Tryz.ntmps81
      go_wp2_with (first | (go_at_call 56; (first | (with_reducible refine (calls_ov2 (spec_RegionOk_eq (Rps.below (by repeat (first | exact bR | refine bO ?_ | refine bA ?_ | refine bS ?_ | refine bD ?_ | refine bN ?_))) (by omega) H5)).mono ?_) | refine (calls_ov (spec_RegionOk_eq (Rps.below (by repeat (first | exact bR | refine bO ?_ | refine bA ?_ | refine bS ?_ | refine bD ?_ | refine bN ?_))) (by omega) H5)).mono ?_); rintro e w' ⟨rfl, x, rfl⟩) | (go_at_call 90; refine (l01In_eq (by first | exact H1.out | exact H2.out | exact H3.out | exact H4.out)).mono ?_; rintro e w' ⟨rfl, rfl⟩))
      refine bodyPost_ret (v := .tuple #[.agg #[.slice none 0 0], .bool false]) (by simp [results, Tryz.results81, go_sem]) rfl ⟨none, 0, rfl, RB.nil _ _ _, (by repeat (first | exact bR | refine bO ?_ | refine bA ?_ | refine bS ?_ | refine bD ?_ | refine bN ?_))⟩
  rw [if_pos ht] at hr'
  have B : GrowBd bx bY lo hi := (growOk_parts (ps := ps) (by unfold growOk rangeB; rw [h1, h2, h3, h4, h5]; exact ht)).1
  have kp := h5
  have hl38 : ps.length ≤ 38 := by omega
  clear ht h1 h2 h3 h4 h5
  obtain ⟨v0, hv0⟩ : ∃ v, decide (ps.length = 0) = v := ⟨_, rfl⟩
  have HV := Lib.hid hv0
  by_cases h0 : ps = [] ∨ (bx = 0 ∧ bY = 0)
  · have hr0 : growM ps bx bY lo hi = (ps, true) := by unfold growM; rw [if_pos h0]
    rw [hr0, Prod.mk.injEq] at hr'
    obtain ⟨rfl, rfl⟩ := hr'
    have hc : v0 = true ∨ (v0 = false ∧ 0 < ps.length ∧ bx = 0 ∧ bY = 0) := by
      rw [← hv0]
      by_cases e : ps.length = 0
      · exact .inl (by simp [e])
      · rcases h0 with h0 | h0
        · exact absurd (by rw [h0]; rfl) e
        · exact .inr ⟨by simp [e], by omega, h0⟩
    clear hv0 h0 hr0 kp
    rcases hc with rfl | ⟨rfl, hp0, rfl, rfl⟩
    all_goals
      go_enter Tryz.func81, Tryz.ntmps81
      go_wp2_with fail
      obtain ⟨V, hV⟩ : ∃ V, ((w.alloc (.cells #[.slice Aps ps.length cps] 37)).alloc (.cells #[.slice none 0 0] 37)) = V := ⟨_, rfl⟩
      have TV : Below w.heap.size w V := by rw [← hV]; exact (by repeat (first | exact bR | refine bO ?_ | refine bA ?_ | refine bS ?_ | refine bD ?_ | refine bN ?_))
      have X0 : V.heap[w.heap.size]? = some (.cells #[.slice Aps ps.length cps] 37 (0, 0)) := by rw [← hV]; exact ((heap_old_at (by first | (simp; done) | (simp <;> omega))).trans (heap_new_at (by first | (simp; done) | (simp <;> omega)) rfl))
      have X1 : V.heap[w.heap.size + 1]? = some (.cells #[.slice none 0 0] 37 (0, 0)) := by rw [← hV]; exact (heap_new_at (by first | (simp; done) | (simp <;> omega)) rfl)
      rw [hV]
      clear hV
      have hbb1 : w.heap.size ≤ w.heap.size + 1 := by omega
      generalize w.heap.size + 1 = ba1 at X1 hbb1 ⊢
      obtain ⟨W0, hW⟩ : ∃ W0, W0 = V := ⟨_, rfl⟩
      rw [← hW]
      have T : Below V.heap.size V W0 := by rw [hW]; exact Below.refl _ _
      clear hW
      have Bp := box_below (Lib.hid X0) T
      clear X0
      have Bo := box_below (Lib.hid X1) T
      clear X1
      have s0 : w.heap.size ≤ V.heap.size := TV.size
      obtain ⟨ba0, hba0⟩ : ∃ b, w.heap.size = b := ⟨_, rfl⟩
      rw [hba0] at Bp
      try rw [hba0]
      have Sps := Rps.below (TV.trans (T.mono s0))
      refine (calls_ov (spec_RegionOk_eq (Sps.below (by repeat (first | exact bR | refine bO ?_ | refine bA ?_ | refine bS ?_ | refine bD ?_ | refine bN ?_))) (by omega) H5)).mono ?_
      rintro e w' ⟨rfl, x, rfl⟩
      obtain ⟨W1, hW⟩ : ∃ W1, W1 = ov W0 x := ⟨_, rfl⟩
      rw [← hW]
      have K : Below W0.heap.size W0 W1 := by rw [hW]; exact (by repeat (first | exact bR | refine bO ?_ | refine bA ?_ | refine bS ?_ | refine bD ?_ | refine bN ?_))
      clear hW
      replace T := T.trans (K.mono T.size)
      replace Bp := box_below Bp K
      replace Bo := box_below Bo K
      clear K Sps
      have Sps := Rps.below (TV.trans (T.mono s0))
      obtain ⟨Bpc0, Bpl⟩ := cb1 Bp
      obtain ⟨Boc0, Bol⟩ := cb1 Bo
      have Bof0 := frozen_blk (j := 0) Bo.out
      go_wp2_with fail
      clear Bpc0 Boc0 Bpl Bol
      clear Bof0
      refine (l01In_eq (by exact H1.out)).mono ?_
      rintro e w' ⟨rfl, rfl⟩
      obtain ⟨Bpc0, Bpl⟩ := cb1 Bp
      obtain ⟨Boc0, Bol⟩ := cb1 Bo
      have Bof0 := frozen_blk (j := 0) Bo.out
      go_wp2_with fail
      clear Bpc0 Boc0 Bpl Bol
      clear Bof0
      refine (l01In_eq (by exact H2.out)).mono ?_
      rintro e w' ⟨rfl, rfl⟩
      obtain ⟨Bpc0, Bpl⟩ := cb1 Bp
      obtain ⟨Boc0, Bol⟩ := cb1 Bo
      have Bof0 := frozen_blk (j := 0) Bo.out
      go_wp2_with fail
      clear Bpc0 Boc0 Bpl Bol
      clear Bof0
      refine (l01In_eq (by exact H3.out)).mono ?_
      rintro e w' ⟨rfl, rfl⟩
      obtain ⟨Bpc0, Bpl⟩ := cb1 Bp
      obtain ⟨Boc0, Bol⟩ := cb1 Bo
      have Bof0 := frozen_blk (j := 0) Bo.out
      go_wp2_with fail
      clear Bpc0 Boc0 Bpl Bol
      clear Bof0
      refine (l01In_eq (by exact H4.out)).mono ?_
      rintro e w' ⟨rfl, rfl⟩
      obtain ⟨Bpc0, Bpl⟩ := cb1 Bp
      obtain ⟨Boc0, Bol⟩ := cb1 Bo
      have Bof0 := frozen_blk (j := 0) Bo.out
      go_wp2_with fail
      clear Bpc0 Boc0 Bpl Bol
      clear Bof0
      refine (calls_ov (spec_IsVoid_eq HV)).mono ?_
      rintro e w' ⟨rfl, x, rfl⟩
      obtain ⟨W2, hW⟩ : ∃ W2, W2 = ov W1 x := ⟨_, rfl⟩
      rw [← hW]
      have K : Below W1.heap.size W1 W2 := by rw [hW]; exact (by repeat (first | exact bR | refine bO ?_ | refine bA ?_ | refine bS ?_ | refine bD ?_ | refine bN ?_))
      clear hW
      replace T := T.trans (K.mono T.size)
      replace Bp := box_below Bp K
      replace Bo := box_below Bo K
      clear K Sps
      have Sps := Rps.below (TV.trans (T.mono s0))
      obtain ⟨Bpc0, Bpl⟩ := cb1 Bp
      obtain ⟨Boc0, Bol⟩ := cb1 Bo
      have Bof0 := frozen_blk (j := 0) Bo.out
      go_wp2_with (at_builtin; refine wpList_append_rows (os := []) (xs := ps) rfl _ _ rfl W2.heap.size rfl (RB.new0 (by simp) (by simp) rfl) rfl (R3.alloc Sps _) (by simp; omega) (by simp) ?_; intro A1 c1 w1 R1 B1; rw [List.nil_append] at R1; have hb1 : Below W2.heap.size W2 w1 := B1.out (by repeat (first | exact bR | refine bO ?_ | refine bA ?_ | refine bS ?_ | refine bD ?_ | refine bN ?_)) (by simp); have XX := box_below Bo hb1; clear Boc0 Bof0 Bol; have x2 := cell_blk (j := 0) (v := .slice none 0 0) XX.out rfl; have f2 := frozen_blk (j := 0) XX.out; have l2 := (Array.getElem?_eq_some_iff.1 XX.out).1)
      refine bodyPost_ret (v := .tuple #[.agg #[.slice A1 ps.length c1], .bool true]) (by simp [results, Tryz.results81, go_sem, x2, l2]) rfl ⟨A1, c1, rfl, (R1.weak (by have := T.size; omega)).set_box XX.out (by decide), (TV.trans ((T.trans (hb1.mono T.size)).mono s0)).setCell hbb1 _⟩
  · have hne : ps ≠ [] := fun e => h0 (.inl e)
    have hb0 : ¬ (bx = 0 ∧ bY = 0) := fun e => h0 (.inr e)
    obtain rfl : v0 = false := by rw [← hv0]; simp [hne]
    rw [growM_grown h0] at hr'
    obtain ⟨⟨ls, v1⟩, hg⟩ : ∃ s, grownL ps bx bY lo hi = s := ⟨_, rfl⟩
    rw [hg] at hr'
    have HG := Lib.hid hg
    have key : ∀ (W : World), R3 99 W Aps cps ps → Calls Tryz.prog 139 #[.agg #[.slice Aps ps.length cps], .int .i64 bx, .int .i64 bY, .int .i64 lo, .int .i64 hi] W (SidePost W ls v1) := fun W RW => l07Grown_eq kp hne (by omega) RW B hb0 HG
    have KEY := Lib.hid key
    have hz : ((bx == 0) = true ∧ (bY == 0) = false) ∨ (bx == 0) = false := by
      by_cases e : bx = 0
      · exact .inl ⟨by simp [e], by simp; exact fun e2 => hb0 ⟨e, e2⟩⟩
      · exact .inr (by simp [e])
    clear key hv0 h0 hne hb0 kp
    cases v1 with
    | false =>
      rw [if_neg (by simp), Prod.mk.injEq] at hr'
      obtain ⟨rfl, rfl⟩ := hr'
      clear hg
      rcases hz with ⟨hx1, hx2⟩ | hx1
      all_goals
        go_enter Tryz.func81, Tryz.ntmps81
        go_wp2_with fail
        obtain ⟨V, hV⟩ : ∃ V, ((w.alloc (.cells #[.slice Aps ps.length cps] 37)).alloc (.cells #[.slice none 0 0] 37)) = V := ⟨_, rfl⟩
        have TV : Below w.heap.size w V := by rw [← hV]; exact (by repeat (first | exact bR | refine bO ?_ | refine bA ?_ | refine bS ?_ | refine bD ?_ | refine bN ?_))
        have X0 : V.heap[w.heap.size]? = some (.cells #[.slice Aps ps.length cps] 37 (0, 0)) := by rw [← hV]; exact ((heap_old_at (by first | (simp; done) | (simp <;> omega))).trans (heap_new_at (by first | (simp; done) | (simp <;> omega)) rfl))
        have X1 : V.heap[w.heap.size + 1]? = some (.cells #[.slice none 0 0] 37 (0, 0)) := by rw [← hV]; exact (heap_new_at (by first | (simp; done) | (simp <;> omega)) rfl)
        rw [hV]
        clear hV
        have hbb1 : w.heap.size ≤ w.heap.size + 1 := by omega
        generalize w.heap.size + 1 = ba1 at X1 hbb1 ⊢
        obtain ⟨W0, hW⟩ : ∃ W0, W0 = V := ⟨_, rfl⟩
        rw [← hW]
        have T : Below V.heap.size V W0 := by rw [hW]; exact Below.refl _ _
        clear hW
        have Bp := box_below (Lib.hid X0) T
        clear X0
        have Bo := box_below (Lib.hid X1) T
        clear X1
        have s0 : w.heap.size ≤ V.heap.size := TV.size
        obtain ⟨ba0, hba0⟩ : ∃ b, w.heap.size = b := ⟨_, rfl⟩
        rw [hba0] at Bp
        try rw [hba0]
        have Sps := Rps.below (TV.trans (T.mono s0))
        refine (calls_ov (spec_RegionOk_eq (Sps.below (by repeat (first | exact bR | refine bO ?_ | refine bA ?_ | refine bS ?_ | refine bD ?_ | refine bN ?_))) (by omega) H5)).mono ?_
        rintro e w' ⟨rfl, x, rfl⟩
        obtain ⟨W3, hW⟩ : ∃ W3, W3 = ov W0 x := ⟨_, rfl⟩
        rw [← hW]
        have K : Below W0.heap.size W0 W3 := by rw [hW]; exact (by repeat (first | exact bR | refine bO ?_ | refine bA ?_ | refine bS ?_ | refine bD ?_ | refine bN ?_))
        clear hW
        replace T := T.trans (K.mono T.size)
        replace Bp := box_below Bp K
        replace Bo := box_below Bo K
        clear K Sps
        have Sps := Rps.below (TV.trans (T.mono s0))
        obtain ⟨Bpc0, Bpl⟩ := cb1 Bp
        obtain ⟨Boc0, Bol⟩ := cb1 Bo
        have Bof0 := frozen_blk (j := 0) Bo.out
        go_wp2_with fail
        clear Bpc0 Boc0 Bpl Bol
        clear Bof0
        refine (l01In_eq (by exact H1.out)).mono ?_
        rintro e w' ⟨rfl, rfl⟩
        obtain ⟨Bpc0, Bpl⟩ := cb1 Bp
        obtain ⟨Boc0, Bol⟩ := cb1 Bo
        have Bof0 := frozen_blk (j := 0) Bo.out
        go_wp2_with fail
        clear Bpc0 Boc0 Bpl Bol
        clear Bof0
        refine (l01In_eq (by exact H2.out)).mono ?_
        rintro e w' ⟨rfl, rfl⟩
        obtain ⟨Bpc0, Bpl⟩ := cb1 Bp
        obtain ⟨Boc0, Bol⟩ := cb1 Bo
        have Bof0 := frozen_blk (j := 0) Bo.out
        go_wp2_with fail
        clear Bpc0 Boc0 Bpl Bol
        clear Bof0
        refine (l01In_eq (by exact H3.out)).mono ?_
        rintro e w' ⟨rfl, rfl⟩
        obtain ⟨Bpc0, Bpl⟩ := cb1 Bp
        obtain ⟨Boc0, Bol⟩ := cb1 Bo
        have Bof0 := frozen_blk (j := 0) Bo.out
        go_wp2_with fail
        clear Bpc0 Boc0 Bpl Bol
        clear Bof0
        refine (l01In_eq (by exact H4.out)).mono ?_
        rintro e w' ⟨rfl, rfl⟩
        obtain ⟨Bpc0, Bpl⟩ := cb1 Bp
        obtain ⟨Boc0, Bol⟩ := cb1 Bo
        have Bof0 := frozen_blk (j := 0) Bo.out
        go_wp2_with fail
        clear Bpc0 Boc0 Bpl Bol
        clear Bof0
        refine (calls_ov (spec_IsVoid_eq HV)).mono ?_
        rintro e w' ⟨rfl, x, rfl⟩
        obtain ⟨W4, hW⟩ : ∃ W4, W4 = ov W3 x := ⟨_, rfl⟩
        rw [← hW]
        have K : Below W3.heap.size W3 W4 := by rw [hW]; exact (by repeat (first | exact bR | refine bO ?_ | refine bA ?_ | refine bS ?_ | refine bD ?_ | refine bN ?_))
        clear hW
        replace T := T.trans (K.mono T.size)
        replace Bp := box_below Bp K
        replace Bo := box_below Bo K
        clear K Sps
        have Sps := Rps.below (TV.trans (T.mono s0))
        obtain ⟨Bpc0, Bpl⟩ := cb1 Bp
        obtain ⟨Boc0, Bol⟩ := cb1 Bo
        have Bof0 := frozen_blk (j := 0) Bo.out
        go_wp2_with fail
        clear Bpc0 Boc0 Bpl Bol
        clear Bof0
        refine (KEY.out _ (Sps.below (by repeat (first | exact bR | refine bO ?_ | refine bA ?_ | refine bS ?_ | refine bD ?_ | refine bN ?_)))).mono ?_
        rintro e W5 ⟨al, dl, rfl, Xl, hb⟩
        have K : Below W4.heap.size W4 W5 := Below.trans (by repeat (first | exact bR | refine bO ?_ | refine bA ?_ | refine bS ?_ | refine bD ?_ | refine bN ?_)) (hb.mono (by first | exact Nat.le_refl _ | simp [ov_size]))
        replace Xl := Xl.weak (B' := V.heap.size) (by have := T.size; (try simp [ov_size]); omega)
        clear hb
        replace T := T.trans (K.mono T.size)
        replace Bp := box_below Bp K
        replace Bo := box_below Bo K
        clear K Sps
        have Sps := Rps.below (TV.trans (T.mono s0))
        obtain ⟨Bpc0, Bpl⟩ := cb1 Bp
        obtain ⟨Boc0, Bol⟩ := cb1 Bo
        have Bof0 := frozen_blk (j := 0) Bo.out
        go_wp2
        refine bodyPost_ret (v := .tuple #[.agg #[.slice none 0 0], .bool false]) (by simp [results, Tryz.results81, go_sem, Boc0, Bol]) rfl ⟨none, 0, rfl, RB.nil _ _ _, ?_⟩
        exact (by repeat (first | exact TV.trans (T.mono s0) | refine bO ?_ | refine bA ?_ | refine bS ?_ | refine bD ?_ | refine bN ?_))
    | true =>
      rw [if_pos rfl] at hr'
      have HK : Hid (meetR ls = (out, ok)) := Lib.hid hr'
      obtain ⟨GM, HL0⟩ := grownL_ok hg
      have HL := Lib.hid HL0
      clear HL0
      clear hg hr'
      rcases hz with ⟨hx1, hx2⟩ | hx1
      all_goals
        go_enter Tryz.func81, Tryz.ntmps81
        go_wp2_with fail
        obtain ⟨V, hV⟩ : ∃ V, ((w.alloc (.cells #[.slice Aps ps.length cps] 37)).alloc (.cells #[.slice none 0 0] 37)) = V := ⟨_, rfl⟩
        have TV : Below w.heap.size w V := by rw [← hV]; exact (by repeat (first | exact bR | refine bO ?_ | refine bA ?_ | refine bS ?_ | refine bD ?_ | refine bN ?_))
        have X0 : V.heap[w.heap.size]? = some (.cells #[.slice Aps ps.length cps] 37 (0, 0)) := by rw [← hV]; exact ((heap_old_at (by first | (simp; done) | (simp <;> omega))).trans (heap_new_at (by first | (simp; done) | (simp <;> omega)) rfl))
        have X1 : V.heap[w.heap.size + 1]? = some (.cells #[.slice none 0 0] 37 (0, 0)) := by rw [← hV]; exact (heap_new_at (by first | (simp; done) | (simp <;> omega)) rfl)
        rw [hV]
        clear hV
        have hbb1 : w.heap.size ≤ w.heap.size + 1 := by omega
        generalize w.heap.size + 1 = ba1 at X1 hbb1 ⊢
        obtain ⟨W0, hW⟩ : ∃ W0, W0 = V := ⟨_, rfl⟩
        rw [← hW]
        have T : Below V.heap.size V W0 := by rw [hW]; exact Below.refl _ _
        clear hW
        have Bp := box_below (Lib.hid X0) T
        clear X0
        have Bo := box_below (Lib.hid X1) T
        clear X1
        have s0 : w.heap.size ≤ V.heap.size := TV.size
        obtain ⟨ba0, hba0⟩ : ∃ b, w.heap.size = b := ⟨_, rfl⟩
        rw [hba0] at Bp
        try rw [hba0]
        have Sps := Rps.below (TV.trans (T.mono s0))
        refine (calls_ov (spec_RegionOk_eq (Sps.below (by repeat (first | exact bR | refine bO ?_ | refine bA ?_ | refine bS ?_ | refine bD ?_ | refine bN ?_))) (by omega) H5)).mono ?_
        rintro e w' ⟨rfl, x, rfl⟩
        obtain ⟨W6, hW⟩ : ∃ W6, W6 = ov W0 x := ⟨_, rfl⟩
        rw [← hW]
        have K : Below W0.heap.size W0 W6 := by rw [hW]; exact (by repeat (first | exact bR | refine bO ?_ | refine bA ?_ | refine bS ?_ | refine bD ?_ | refine bN ?_))
        clear hW
        replace T := T.trans (K.mono T.size)
        replace Bp := box_below Bp K
        replace Bo := box_below Bo K
        clear K Sps
        have Sps := Rps.below (TV.trans (T.mono s0))
        obtain ⟨Bpc0, Bpl⟩ := cb1 Bp
        obtain ⟨Boc0, Bol⟩ := cb1 Bo
        have Bof0 := frozen_blk (j := 0) Bo.out
        go_wp2_with fail
        clear Bpc0 Boc0 Bpl Bol
        clear Bof0
        refine (l01In_eq (by exact H1.out)).mono ?_
        rintro e w' ⟨rfl, rfl⟩
        obtain ⟨Bpc0, Bpl⟩ := cb1 Bp
        obtain ⟨Boc0, Bol⟩ := cb1 Bo
        have Bof0 := frozen_blk (j := 0) Bo.out
        go_wp2_with fail
        clear Bpc0 Boc0 Bpl Bol
        clear Bof0
        refine (l01In_eq (by exact H2.out)).mono ?_
        rintro e w' ⟨rfl, rfl⟩
        obtain ⟨Bpc0, Bpl⟩ := cb1 Bp
        obtain ⟨Boc0, Bol⟩ := cb1 Bo
        have Bof0 := frozen_blk (j := 0) Bo.out
        go_wp2_with fail
        clear Bpc0 Boc0 Bpl Bol
        clear Bof0
        refine (l01In_eq (by exact H3.out)).mono ?_
        rintro e w' ⟨rfl, rfl⟩
        obtain ⟨Bpc0, Bpl⟩ := cb1 Bp
        obtain ⟨Boc0, Bol⟩ := cb1 Bo
        have Bof0 := frozen_blk (j := 0) Bo.out
        go_wp2_with fail
        clear Bpc0 Boc0 Bpl Bol
        clear Bof0
        refine (l01In_eq (by exact H4.out)).mono ?_
        rintro e w' ⟨rfl, rfl⟩
        obtain ⟨Bpc0, Bpl⟩ := cb1 Bp
        obtain ⟨Boc0, Bol⟩ := cb1 Bo
        have Bof0 := frozen_blk (j := 0) Bo.out
        go_wp2_with fail
        clear Bpc0 Boc0 Bpl Bol
        clear Bof0
        refine (calls_ov (spec_IsVoid_eq HV)).mono ?_
        rintro e w' ⟨rfl, x, rfl⟩
        obtain ⟨W7, hW⟩ : ∃ W7, W7 = ov W6 x := ⟨_, rfl⟩
        rw [← hW]
        have K : Below W6.heap.size W6 W7 := by rw [hW]; exact (by repeat (first | exact bR | refine bO ?_ | refine bA ?_ | refine bS ?_ | refine bD ?_ | refine bN ?_))
        clear hW
        replace T := T.trans (K.mono T.size)
        replace Bp := box_below Bp K
        replace Bo := box_below Bo K
        clear K Sps
        have Sps := Rps.below (TV.trans (T.mono s0))
        obtain ⟨Bpc0, Bpl⟩ := cb1 Bp
        obtain ⟨Boc0, Bol⟩ := cb1 Bo
        have Bof0 := frozen_blk (j := 0) Bo.out
        go_wp2_with fail
        clear Bpc0 Boc0 Bpl Bol
        clear Bof0
        refine (KEY.out _ (Sps.below (by repeat (first | exact bR | refine bO ?_ | refine bA ?_ | refine bS ?_ | refine bD ?_ | refine bN ?_)))).mono ?_
        rintro e W8 ⟨al, dl, rfl, Xl, hb⟩
        have K : Below W7.heap.size W7 W8 := Below.trans (by repeat (first | exact bR | refine bO ?_ | refine bA ?_ | refine bS ?_ | refine bD ?_ | refine bN ?_)) (hb.mono (by first | exact Nat.le_refl _ | simp [ov_size]))
        replace Xl := Xl.weak (B' := V.heap.size) (by have := T.size; (try simp [ov_size]); omega)
        clear hb
        replace T := T.trans (K.mono T.size)
        replace Bp := box_below Bp K
        replace Bo := box_below Bo K
        clear K Sps
        have Sps := Rps.below (TV.trans (T.mono s0))
        obtain ⟨Bpc0, Bpl⟩ := cb1 Bp
        obtain ⟨Boc0, Bol⟩ := cb1 Bo
        have Bof0 := frozen_blk (j := 0) Bo.out
        go_wp2_with fail
        clear Bpc0 Boc0 Bpl Bol
        clear Bof0
        refine (l05Fit_eqn (n := ls.length) rfl GM ((Xl.below (by repeat (first | exact bR | refine bO ?_ | refine bA ?_ | refine bS ?_ | refine bD ?_ | refine bN ?_))).r3) (by have := HL.out; omega) HK).mono ?_
        rintro e W9 ⟨aq, dq, rfl, Xq, hb⟩
        have K : Below W8.heap.size W8 W9 := Below.trans (by repeat (first | exact bR | refine bO ?_ | refine bA ?_ | refine bS ?_ | refine bD ?_ | refine bN ?_)) (hb.mono (by first | exact Nat.le_refl _ | simp [ov_size]))
        replace Xq := Xq.weak (B' := V.heap.size) (by have := T.size; (try simp [ov_size]); omega)
        clear hb
        replace T := T.trans (K.mono T.size)
        replace Bp := box_below Bp K
        replace Bo := box_below Bo K
        replace Xl := Xl.below K
        clear K Sps
        have Sps := Rps.below (TV.trans (T.mono s0))
        obtain ⟨Bpc0, Bpl⟩ := cb1 Bp
        obtain ⟨Boc0, Bol⟩ := cb1 Bo
        have Bof0 := frozen_blk (j := 0) Bo.out
        go_wp2
        refine bodyPost_ret (v := .tuple #[.agg #[.slice aq out.length dq], .bool ok]) (by simp [results, Tryz.results81, go_sem, Boc0, Bol]) rfl ⟨aq, dq, rfl, (Xq.weak s0).set_box Bo.out (by decide), (TV.trans (T.mono s0)).setCell hbb1 _⟩
end Go.Proofs.YtgdleimdenbnlaaGreat
