/- Contracts of RoomOk, of the program and of the reference. No condition but that lengths are ints. -/
import Derived.Test.YtgdleimdenbnlaaKm
set_option linter.unusedVariables false
set_option linter.unusedSimpArgs false
set_option linter.unusedSectionVars false
namespace Go.Proofs.Ytgdleimdenbnlaa
open Go.RowKit

def rangeB (lo hi : Int) : Bool := inR lo (-1000) 1000 && inR hi lo 1000
def roomOk (r : RoomV) : Bool := turnOk r.m r.q && inR r.bx (-100) 100 && inR r.by_ (-100) 100 && rangeB r.lo r.hi && !decide (r.ns.length = 0) && !decide (r.ls.length = 0) && regionOk r.ns && regionOk r.ls
structure RoomP (r : RoomV) : Prop where
  tk : turnOk r.m r.q = true
  bx : -100 ≤ r.bx ∧ r.bx ≤ 100
  by_ : -100 ≤ r.by_ ∧ r.by_ ≤ 100
  lo : -1000 ≤ r.lo ∧ r.lo ≤ 1000
  hi : r.lo ≤ r.hi ∧ r.hi ≤ 1000
  ns : r.ns ≠ []
  ls : r.ls ≠ []
  nk : regionOk r.ns = true
  lk : regionOk r.ls = true
theorem roomOk_parts {r : RoomV} (h : roomOk r = true) : RoomP r := by
  unfold roomOk rangeB at h
  simp only [Bool.and_eq_true, inR_iff, Bool.not_eq_true', decide_eq_false_iff_not] at h
  obtain ⟨⟨⟨⟨⟨⟨⟨h1, h2⟩, h3⟩, h4, h5⟩, h6⟩, h7⟩, h8⟩, h9⟩ := h
  exact ⟨h1, h2, h3, h4, h5, fun e => h6 (by rw [e]; rfl), fun e => h7 (by rw [e]; rfl), h8, h9⟩
theorem isDrive_eq {n : Int} {v : Bool} {w : World} (h : inR n (-100) 100 = v) : Calls Try.prog 87 #[.int .i64 n] w fun e w' => e = .returned (.bool v) ∧ w = w' := by
  go_enter Try.func87, Try.ntmps87
  go_wp2_with ((go_at_call 101; refine (inRange_eq h).mono ?_; rintro e w' ⟨rfl, rfl⟩))
  go_ret
  exact ⟨rfl, rfl⟩
theorem isRange_eq {a b : Int} {v : Bool} {w : World} (h : rangeB a b = v) : Calls Try.prog 88 #[.int .i64 a, .int .i64 b] w fun e w' => e = .returned (.bool v) ∧ w = w' := by
  have h' : v = true ↔ (-1000 ≤ a ∧ a ≤ 1000) ∧ a ≤ b ∧ b ≤ 1000 := by rw [← h]; unfold rangeB; rw [Bool.and_eq_true, inR_iff, inR_iff]
  clear h
  by_cases h1 : -1000 ≤ a
  · by_cases h2 : a ≤ b
    · by_cases h3 : b ≤ 1000
      · obtain rfl : v = true := h'.2 ⟨⟨h1, by omega⟩, h2, h3⟩
        clear h'
        go_enter Try.func88, Try.ntmps88
        go_wp2
        go_ret
        exact ⟨rfl, rfl⟩
      · obtain rfl : v = false := by cases v <;> simp at h' ⊢; omega
        clear h'
        go_enter Try.func88, Try.ntmps88
        go_wp2
        go_ret
        exact ⟨rfl, rfl⟩
    · obtain rfl : v = false := by cases v <;> simp at h' ⊢; omega
      clear h'
      go_enter Try.func88, Try.ntmps88
      go_wp2
      go_ret
      exact ⟨rfl, rfl⟩
  · obtain rfl : v = false := by cases v <;> simp at h' ⊢; omega
    clear h'
    go_enter Try.func88, Try.ntmps88
    go_wp2
    go_ret
    exact ⟨rfl, rfl⟩

set_option maxRecDepth 100000 in
set_option maxHeartbeats 8000000 in
theorem impl_RoomOk_eq {r : RoomV} {v : Bool} {A1 A2 A3 : Option Addr} {c1 c2 c3 : Nat} {w : World} (M : RM w r A1 A2 c2 A3 c3) (hs : r.Short) (h : Hid (roomOk r = v)) :
    Calls Try.prog 45 #[.agg #[.slice A1 r.m.length c1, .int .i64 r.q, .int .i64 r.bx, .int .i64 r.by_, .int .i64 r.lo, .int .i64 r.hi, .slice A2 r.ns.length c2, .slice A3 r.ls.length c3]] w fun e w' => e = .returned (.bool v) ∧ Below w.heap.size w w' := by
  have k1 := hs.m
  have k2 := hs.ns
  have k3 := hs.ls
  have hv := h.out
  unfold roomOk at hv
  clear h hs
  obtain ⟨t1, h1⟩ : ∃ t, turnOk r.m r.q = t := ⟨_, rfl⟩
  obtain ⟨t2, h2⟩ : ∃ t, inR r.bx (-100) 100 = t := ⟨_, rfl⟩
  obtain ⟨t3, h3⟩ : ∃ t, inR r.by_ (-100) 100 = t := ⟨_, rfl⟩
  obtain ⟨t4, h4⟩ : ∃ t, rangeB r.lo r.hi = t := ⟨_, rfl⟩
  obtain ⟨t5, h5⟩ : ∃ t, decide (r.ns.length = 0) = t := ⟨_, rfl⟩
  obtain ⟨t6, h6⟩ : ∃ t, decide (r.ls.length = 0) = t := ⟨_, rfl⟩
  obtain ⟨t7, h7⟩ : ∃ t, regionOk r.ns = t := ⟨_, rfl⟩
  obtain ⟨t8, h8⟩ : ∃ t, regionOk r.ls = t := ⟨_, rfl⟩
  rw [h1, h2, h3, h4, h5, h6, h7, h8] at hv
  have H1 := Lib.hid h1
  have H2 := Lib.hid h2
  have H3 := Lib.hid h3
  have H4 := Lib.hid h4
  have H5 := Lib.hid h5
  have H6 := Lib.hid h6
  have H7 := Lib.hid h7
  have H8 := Lib.hid h8
  clear h1 h2 h3 h4 h5 h6 h7 h8
  have hc : (v = false ∧ (t1 = false ∨ (t1 = true ∧ t2 = false) ∨ (t1 = true ∧ t2 = true ∧ t3 = false) ∨ (t1 = true ∧ t2 = true ∧ t3 = true ∧ t4 = false) ∨ (t1 = true ∧ t2 = true ∧ t3 = true ∧ t4 = true ∧ t5 = true) ∨ (t1 = true ∧ t2 = true ∧ t3 = true ∧ t4 = true ∧ t5 = false ∧ t6 = true) ∨ (t1 = true ∧ t2 = true ∧ t3 = true ∧ t4 = true ∧ t5 = false ∧ t6 = false ∧ t7 = false) ∨ (t1 = true ∧ t2 = true ∧ t3 = true ∧ t4 = true ∧ t5 = false ∧ t6 = false ∧ t7 = true ∧ t8 = false))) ∨ (v = true ∧ t1 = true ∧ t2 = true ∧ t3 = true ∧ t4 = true ∧ t5 = false ∧ t6 = false ∧ t7 = true ∧ t8 = true) := by
    revert hv
    cases t1 <;> cases t2 <;> cases t3 <;> cases t4 <;> cases t5 <;> cases t6 <;> cases t7 <;> cases t8 <;> simp <;> exact fun e => e.symm
  clear hv
  rcases hc with ⟨rfl, rfl | ⟨rfl, rfl⟩ | ⟨rfl, rfl, rfl⟩ | ⟨rfl, rfl, rfl, rfl⟩ | ⟨rfl, rfl, rfl, rfl, rfl⟩ | ⟨rfl, rfl, rfl, rfl, rfl, rfl⟩ | ⟨rfl, rfl, rfl, rfl, rfl, rfl, rfl⟩ | ⟨rfl, rfl, rfl, rfl, rfl, rfl, rfl, rfl⟩⟩ | ⟨rfl, rfl, rfl, rfl, rfl, rfl, rfl, rfl, rfl⟩
  all_goals
    go_enter Try.func45, Try.ntmps45
    go_wp2_with (first | (go_at_call 91; (first | (with_reducible refine (calls_ov2 (isTurnable_eq (by exact M.mr.below (by repeat (first | exact bR | refine bO ?_ | refine bA ?_ | refine bS ?_ | refine bD ?_ | refine bN ?_))) (by omega) H1)).mono ?_) | refine (calls_ov (isTurnable_eq (by exact M.mr.below (by repeat (first | exact bR | refine bO ?_ | refine bA ?_ | refine bS ?_ | refine bD ?_ | refine bN ?_))) (by omega) H1)).mono ?_); rintro e w' ⟨rfl, x, rfl⟩) | (go_at_call 87; refine (isDrive_eq (by first | exact H2.out | exact H3.out)).mono ?_; rintro e w' ⟨rfl, rfl⟩) | (go_at_call 88; refine (isRange_eq H4.out).mono ?_; rintro e w' ⟨rfl, rfl⟩) | (go_at_call 82; (first | (with_reducible refine (calls_ov2 (IsVoid_eq (by first | exact H5 | exact H6))).mono ?_) | refine (calls_ov (IsVoid_eq (by first | exact H5 | exact H6))).mono ?_); rintro e w' ⟨rfl, x, rfl⟩) | (go_at_call 83; (first | (with_reducible refine (calls_ov2 (impl_RegionOk_eq (by first | exact M.nr.below (by repeat (first | exact bR | refine bO ?_ | refine bA ?_ | refine bS ?_ | refine bD ?_ | refine bN ?_)) | exact M.lr.below (by repeat (first | exact bR | refine bO ?_ | refine bA ?_ | refine bS ?_ | refine bD ?_ | refine bN ?_))) (by omega) (by first | exact H7 | exact H8))).mono ?_) | refine (calls_ov (impl_RegionOk_eq (by first | exact M.nr.below (by repeat (first | exact bR | refine bO ?_ | refine bA ?_ | refine bS ?_ | refine bD ?_ | refine bN ?_)) | exact M.lr.below (by repeat (first | exact bR | refine bO ?_ | refine bA ?_ | refine bS ?_ | refine bD ?_ | refine bN ?_))) (by omega) (by first | exact H7 | exact H8))).mono ?_); rintro e w' ⟨rfl, x, rfl⟩))
    go_ret
    exact ⟨rfl, (by repeat (first | exact bR | refine bO ?_ | refine bA ?_ | refine bS ?_ | refine bD ?_ | refine bN ?_))⟩

set_option maxRecDepth 100000 in
set_option maxHeartbeats 8000000 in
theorem spec_RoomOk_eq {r : RoomV} {v : Bool} {A1 A2 A3 : Option Addr} {c1 c2 c3 : Nat} {w : World} (M : RM w r A1 A2 c2 A3 c3) (hs : r.Short) (h : Hid (roomOk r = v)) :
    Calls Try.prog 44 #[.agg #[.slice A1 r.m.length c1, .int .i64 r.q, .int .i64 r.bx, .int .i64 r.by_, .int .i64 r.lo, .int .i64 r.hi, .slice A2 r.ns.length c2, .slice A3 r.ls.length c3]] w fun e w' => e = .returned (.bool v) ∧ Below w.heap.size w w' := by
  obtain ⟨m, q, bx, by_, lo, hi, ns, ls⟩ := r
  obtain ⟨k1, k2, k3⟩ := hs
  obtain ⟨M1, M2, M3⟩ := M
  simp only at k1 k2 k3 M1 M2 M3 ⊢
  have hv := h.out
  unfold roomOk rangeB turnOk at hv
  simp only at hv
  clear h
  cases hm : mapOk m q with
  | false =>
    rw [hm] at hv
    obtain rfl : v = false := by rw [← hv]; rfl
    have HM := Lib.hid hm
    clear hv hm
    go_enter Try.func44, Try.ntmps44
    go_wp2
    simp only [List.append_eq, List.cons_append, List.nil_append]
    ((first | (with_reducible refine wp_region_calm2 (by kernel_rfl) (by kernel_rfl) ?_) | refine wp_region_calm (by kernel_rfl) (by kernel_rfl) ?_); (repeat (go_big_quiet_step (first | (go_at_call 90; exact calm_below (l07Matrix_eq (by exact M1.below (by repeat (first | exact bR | refine bO ?_ | refine bA ?_ | refine bS ?_ | refine bD ?_ | refine bN ?_))) (by omega) HM))))); refine wpQuiet_nil ?_; rintro _ ⟨y, rfl⟩)
    go_wp2
    go_ret
    exact ⟨rfl, (by repeat (first | exact bR | refine bO ?_ | refine bA ?_ | refine bS ?_ | refine bD ?_ | refine bN ?_))⟩
  | true =>
    rw [hm, Bool.true_and] at hv
    obtain ⟨a, b, e, f, rfl, Mb⟩ := mapOk_parts hm
    have HM := Lib.hid hm
    have p1 := mul_bd Mb.ba Mb.bf
    have p2 := mul_bd Mb.bb Mb.be
    obtain ⟨t1, hd⟩ : ∃ t, (a * f - b * e != 0) = t := ⟨_, rfl⟩
    obtain ⟨t2, h2⟩ : ∃ t, inR bx (-100) 100 = t := ⟨_, rfl⟩
    obtain ⟨t3, h3⟩ : ∃ t, inR by_ (-100) 100 = t := ⟨_, rfl⟩
    obtain ⟨t4, h4⟩ : ∃ t, inR lo (-1000) 1000 = t := ⟨_, rfl⟩
    obtain ⟨t9, h9⟩ : ∃ t, inR hi lo 1000 = t := ⟨_, rfl⟩
    obtain ⟨t5, h5⟩ : ∃ t, decide (ns.length = 0) = t := ⟨_, rfl⟩
    obtain ⟨t6, h6⟩ : ∃ t, decide (ls.length = 0) = t := ⟨_, rfl⟩
    obtain ⟨t7, h7⟩ : ∃ t, regionOk ns = t := ⟨_, rfl⟩
    obtain ⟨t8, h8⟩ : ∃ t, regionOk ls = t := ⟨_, rfl⟩
    have hdd : (detI [a, b, e, f] != 0) = t1 := hd
    rw [hdd, h2, h3, h4, h9, h5, h6, h7, h8] at hv
    have H2 := Lib.hid h2
    have H3 := Lib.hid h3
    have H4 := Lib.hid h4
    have H9 := Lib.hid h9
    have H5 := Lib.hid h5
    have H6 := Lib.hid h6
    have H7 := Lib.hid h7
    have H8 := Lib.hid h8
    obtain ⟨g, o, rfl, hg, c0, d1, d2, d3⟩ := M1.four
    clear h2 h3 h4 h5 h6 h7 h8 h9 hdd hm
    have hc : (v = false ∧ (t1 = false ∨ (t1 = true ∧ t2 = false) ∨ (t1 = true ∧ t2 = true ∧ t3 = false) ∨ (t1 = true ∧ t2 = true ∧ t3 = true ∧ t4 = false) ∨ (t1 = true ∧ t2 = true ∧ t3 = true ∧ t4 = true ∧ t9 = false) ∨ (t1 = true ∧ t2 = true ∧ t3 = true ∧ t4 = true ∧ t9 = true ∧ t7 = false) ∨ (t1 = true ∧ t2 = true ∧ t3 = true ∧ t4 = true ∧ t9 = true ∧ t7 = true ∧ t8 = false) ∨ (t1 = true ∧ t2 = true ∧ t3 = true ∧ t4 = true ∧ t9 = true ∧ t7 = true ∧ t8 = true ∧ t5 = true) ∨ (t1 = true ∧ t2 = true ∧ t3 = true ∧ t4 = true ∧ t9 = true ∧ t7 = true ∧ t8 = true ∧ t5 = false ∧ t6 = true))) ∨ (v = true ∧ t1 = true ∧ t2 = true ∧ t3 = true ∧ t4 = true ∧ t9 = true ∧ t7 = true ∧ t8 = true ∧ t5 = false ∧ t6 = false) := by
      revert hv
      cases t1 <;> cases t2 <;> cases t3 <;> cases t4 <;> cases t9 <;> cases t5 <;> cases t6 <;> cases t7 <;> cases t8 <;> simp <;> exact fun e => e.symm
    clear hv
    go_enter Try.func44, Try.ntmps44
    go_wp2
    obtain ⟨V, hV⟩ : ∃ V, w.alloc (.cells #[.slice (some ⟨g, o, none⟩) 4 c1, .int .i64 q, .int .i64 bx, .int .i64 by_, .int .i64 lo, .int .i64 hi, .slice A2 ns.length c2, .slice A3 ls.length c3] 36) = V := ⟨_, rfl⟩
    rw [hV]
    have TV : Below w.heap.size w V := by rw [← hV]; exact (by repeat (first | exact bR | refine bO ?_ | refine bA ?_ | refine bS ?_ | refine bD ?_ | refine bN ?_))
    have X0 : V.heap[w.heap.size]? = some (.cells #[.slice (some ⟨g, o, none⟩) 4 c1, .int .i64 q, .int .i64 bx, .int .i64 by_, .int .i64 lo, .int .i64 hi, .slice A2 ns.length c2, .slice A3 ls.length c3] 36 (0, 0)) := by rw [← hV]; exact heap_new_at (by simp) rfl
    have x0 := cell_blk (j := 0) (v := .slice (some ⟨g, o, none⟩) 4 c1) X0 rfl
    have x1 := cell_blk (j := 1) (v := .int .i64 q) X0 rfl
    have x2 := cell_blk (j := 2) (v := .int .i64 bx) X0 rfl
    have x3 := cell_blk (j := 3) (v := .int .i64 by_) X0 rfl
    have x4 := cell_blk (j := 4) (v := .int .i64 lo) X0 rfl
    have x5 := cell_blk (j := 5) (v := .int .i64 hi) X0 rfl
    have x6 := cell_blk (j := 6) (v := .slice A2 ns.length c2) X0 rfl
    have x7 := cell_blk (j := 7) (v := .slice A3 ls.length c3) X0 rfl
    have x0l := (Array.getElem?_eq_some_iff.1 X0).1
    have RV := M1.below TV
    have N2 := M2.below TV
    have N3 := M3.below TV
    have g0 := (TV.cell (p := ⟨g, o, none⟩) hg).trans c0
    have g1 := (TV.cell (p := ⟨g, o + 1, none⟩) hg).trans d1
    have g2 := (TV.cell (p := ⟨g, o + 2, none⟩) hg).trans d2
    have g3 := (TV.cell (p := ⟨g, o + 3, none⟩) hg).trans d3
    have hgv : g < V.heap.size := by have := TV.size; omega
    clear hV X0 c0 d1 d2 d3 M1 M2 M3
    rcases hc with ⟨rfl, rfl | ⟨rfl, rfl⟩ | ⟨rfl, rfl, rfl⟩ | ⟨rfl, rfl, rfl, rfl⟩ | ⟨rfl, rfl, rfl, rfl, rfl⟩ | ⟨rfl, rfl, rfl, rfl, rfl, rfl⟩ | ⟨rfl, rfl, rfl, rfl, rfl, rfl, rfl⟩ | ⟨rfl, rfl, rfl, rfl, rfl, rfl, rfl, rfl⟩ | ⟨rfl, rfl, rfl, rfl, rfl, rfl, rfl, rfl, rfl⟩⟩ | ⟨rfl, rfl, rfl, rfl, rfl, rfl, rfl, rfl, rfl, rfl⟩
    all_goals
      simp only [List.append_eq, List.cons_append, List.nil_append]
      ((first | (with_reducible refine wp_region_calm2 (by kernel_rfl) (by kernel_rfl) ?_) | refine wp_region_calm (by kernel_rfl) (by kernel_rfl) ?_); (repeat (go_big_quiet_step (first | first | (go_at_call 90; exact calm_below (l07Matrix_eq (m := [a, b, e, f]) (by exact RV.below (by repeat (first | exact bR | refine bO ?_ | refine bA ?_ | refine bS ?_ | refine bD ?_ | refine bN ?_))) (by simp) HM)) | (go_at_call 50; exact calm_same (l01In_eq (by first | exact H2.out | exact H3.out | exact H4.out | exact H9.out))) | (go_at_call 76; exact calm_below (spec_RegionOk_eq (by first | exact N2.below (by repeat (first | exact bR | refine bO ?_ | refine bA ?_ | refine bS ?_ | refine bD ?_ | refine bN ?_)) | exact N3.below (by repeat (first | exact bR | refine bO ?_ | refine bA ?_ | refine bS ?_ | refine bD ?_ | refine bN ?_))) (by omega) (by first | exact H7 | exact H8))) | (go_at_call 77; exact calm_below (spec_IsVoid_eq (by first | exact H5 | exact H6)))))); refine wpQuiet_nil ?_; rintro _ ⟨y, rfl⟩)
      go_wp2
      go_ret
      exact ⟨rfl, (by repeat (first | exact TV | refine bO ?_ | refine bA ?_ | refine bS ?_ | refine bD ?_ | refine bN ?_))⟩
end Go.Proofs.Ytgdleimdenbnlaa
