/- Contracts of slices.Clone and of CutRegion, of the program and of the reference. No condition but that lengths are ints. -/
import Derived.Test.YtabmfaamadbefaaGreatRf
import Derived.Test.YtabmfaamadbefaaGreatGeo
import Derived.Lib.SliceRun
set_option linter.unusedSimpArgs false
set_option linter.unusedVariables false
set_option linter.unusedSectionVars false
namespace Go.Proofs.YtabmfaamadbefaaGreat
open Go.RowKit
set_option maxRecDepth 100000 in
theorem Clone_any {xs : List H3} {A : Option Addr} {c : Nat} {w : World} (R : R3 44 w A c xs) (hl : 0 < xs.length ∧ xs.length ≤ 5000) :
    Calls Tryz.prog 57 #[.slice A xs.length c] w (InsPost w.heap.size w xs) := by
  obtain ⟨g, rfl, _⟩ := R.at_ hl.1
  have hn : (binOp .eql 24 (.slice (some ⟨g, 0, none⟩) xs.length c) (.slice none 0 0)).run Tryz.prog w = .ok (.bool (some (⟨g, 0, none⟩ : Addr)).isNone) w := Lib.run_eql_slice_nil w _ _ _ _ _ _ _ Tryz.underlying24
  go_enter Tryz.func57, Tryz.ntmps57
  go_wp2_with (at_builtin; refine wpList_append_fresh rfl _ _ rfl rfl rfl (R3.alloc R _) hl ?_; intro A1 c1 w1 R1 hb1; have HB := Lib.hid hb1; clear hb1)
  go_ret
  exact ⟨_, _, rfl, R1.weak (by simp), ((Below.refl _ _).alloc (Nat.le_refl _) _).trans (HB.out.mono (by simp))⟩

/-- What CutRegion returns. -/
def cutR (hs : List H3) (h : H3) : List H3 × Bool := if halfOk h = true ∧ regionOk hs = true ∧ hs.length < 40 then (if hs = [] then ([], true) else (makeR (hs ++ [h]), true)) else ([], false)
theorem regionOk_parts {hs : List H3} (h : regionOk hs = true) (hne : hs ≠ []) : (∀ g ∈ hs, HOk g) ∧ makeR hs = hs ∧ hs.length ≤ 40 := by
  unfold regionOk at h
  simp only [hne, decide_false, Bool.false_or, Bool.and_eq_true, decide_eq_true_eq] at h
  obtain ⟨h1, h2⟩ := h
  unfold fromR at h1 h2
  split at h1
  · rename_i hc
    rw [if_pos hc] at h2
    have G := allOk hc.2
    rw [meetR_makeR G] at h1 h2
    split at h1
    · cases h1
    · rename_i h40
      rw [if_neg h40] at h2
      exact ⟨G, h2.symm, hc.1⟩
  · cases h1
theorem cut_few {hs : List H3} {h : H3} (ok : regionOk hs = true) (hne : hs ≠ []) (kh : HOk h) (hl : hs.length < 40) : meetR (hs ++ [h]) = (makeR (hs ++ [h]), true) := by
  obtain ⟨G, e, _⟩ := regionOk_parts ok hne
  have G2 : ∀ g ∈ hs ++ [h], HOk g := fun g hg => by
    rcases List.mem_append.1 hg with h1 | h1
    · exact G g h1
    · obtain rfl := List.mem_singleton.1 h1; exact kh
  rw [meetR_makeR G2, if_neg]
  have := meet_few G (rest := [h]) (fun g hg => by obtain rfl := List.mem_singleton.1 hg; exact kh) e hne
  simp at this
  omega

set_option maxRecDepth 100000 in
set_option maxHeartbeats 1000000 in
theorem spec_CutRegion_eq {hs out : List H3} {h : H3} {ok : Bool} {A : Option Addr} {c : Nat} {w : World} (R : R3 44 w A c hs) (hl : hs.length ≤ 1000000000) (hr : Hid (cutR hs h = (out, ok))) :
    Calls Tryz.prog 85 #[.agg #[.slice A hs.length c], .agg #[.int .i64 h.a, .int .i64 h.b, .int .i64 h.c]] w (RegPost w out ok) := by
  have hr' := hr.out
  clear hr
  obtain ⟨rk, hrk⟩ : ∃ v, regionOk hs = v := ⟨_, rfl⟩
  obtain ⟨hk, hhk⟩ : ∃ v, halfOk h = v := ⟨_, rfl⟩
  have HRK := Lib.hid hrk
  unfold cutR at hr'
  rw [hrk, hhk] at hr'
  cases rk with
  | false =>
    rw [if_neg (by simp)] at hr'
    simp at hr'
    obtain ⟨rfl, rfl⟩ := hr'
    clear hrk
    go_enter Tryz.func85, Tryz.ntmps85
    go_wp2_with (first | (go_at_call 116; (first | (with_reducible refine (calls_ov2 (spec_RegionOk_eq (R3.alloc (R3.alloc (R3.alloc R _) _) _) hl HRK)).mono ?_) | refine (calls_ov (spec_RegionOk_eq (R3.alloc (R3.alloc (R3.alloc R _) _) _) hl HRK)).mono ?_); rintro e w' ⟨rfl, x, rfl⟩))
    refine bodyPost_ret (v := .tuple #[.agg #[.slice none 0 0], .bool false]) (by simp [results, Tryz.results85, go_sem]) rfl ⟨none, 0, rfl, RB.nil _ _ _, (by repeat (first | exact bR | refine bO ?_ | refine bA ?_ | refine bS ?_ | refine bD ?_ | refine bN ?_))⟩
  | true =>
    cases hk with
    | false =>
      rw [if_neg (by simp)] at hr'
      simp at hr'
      obtain ⟨rfl, rfl⟩ := hr'
      clear hrk
      go_enter Tryz.func85, Tryz.ntmps85
      go_wp2_with (first | (go_at_call 116; (first | (with_reducible refine (calls_ov2 (spec_RegionOk_eq (R3.alloc (R3.alloc (R3.alloc R _) _) _) hl HRK)).mono ?_) | refine (calls_ov (spec_RegionOk_eq (R3.alloc (R3.alloc (R3.alloc R _) _) _) hl HRK)).mono ?_); rintro e w' ⟨rfl, x, rfl⟩) | (go_at_call 115; (first | (with_reducible refine (calls_ov2 (spec_HalfOk_eq hhk)).mono ?_) | refine (calls_ov (spec_HalfOk_eq hhk)).mono ?_); rintro e w' ⟨rfl, x, rfl⟩))
      refine bodyPost_ret (v := .tuple #[.agg #[.slice none 0 0], .bool false]) (by simp [results, Tryz.results85, go_sem]) rfl ⟨none, 0, rfl, RB.nil _ _ _, (by repeat (first | exact bR | refine bO ?_ | refine bA ?_ | refine bS ?_ | refine bD ?_ | refine bN ?_))⟩
    | true =>
      by_cases h40 : hs.length < 40
      · rw [if_pos ⟨rfl, rfl, h40⟩] at hr'
        by_cases h0 : hs = []
        · rw [if_pos h0] at hr'
          simp at hr'
          obtain ⟨rfl, rfl⟩ := hr'
          have HV : Hid (decide (hs.length = 0) = true) := Lib.hid (by rw [h0]; rfl)
          clear hrk h0
          go_enter Tryz.func85, Tryz.ntmps85
          go_wp2_with (first | (go_at_call 116; (first | (with_reducible refine (calls_ov2 (spec_RegionOk_eq (R3.alloc (R3.alloc (R3.alloc R _) _) _) hl HRK)).mono ?_) | refine (calls_ov (spec_RegionOk_eq (R3.alloc (R3.alloc (R3.alloc R _) _) _) hl HRK)).mono ?_); rintro e w' ⟨rfl, x, rfl⟩) | (go_at_call 115; (first | (with_reducible refine (calls_ov2 (spec_HalfOk_eq hhk)).mono ?_) | refine (calls_ov (spec_HalfOk_eq hhk)).mono ?_); rintro e w' ⟨rfl, x, rfl⟩) | (go_at_call 117; (first | (with_reducible refine (calls_ov2 (spec_IsVoid_eq HV)).mono ?_) | refine (calls_ov (spec_IsVoid_eq HV)).mono ?_); rintro e w' ⟨rfl, x, rfl⟩))
          refine bodyPost_ret (v := .tuple #[.agg #[.slice none 0 0], .bool true]) (by simp [results, Tryz.results85, go_sem]) rfl ⟨none, 0, rfl, RB.nil _ _ _, (by repeat (first | exact bR | refine bO ?_ | refine bA ?_ | refine bS ?_ | refine bD ?_ | refine bN ?_))⟩
        · rw [if_neg h0] at hr'
          simp at hr'
          obtain ⟨e, rfl⟩ := hr'
          have HM := Lib.hid e
          have hl0 : 0 < hs.length := List.length_pos_iff.2 h0
          have HV : Hid (decide (hs.length = 0) = false) := Lib.hid (decide_eq_false (by omega))
          obtain ⟨G, _, _⟩ := regionOk_parts hrk h0
          have kh := (halfOk_iff h).1 hhk
          have G2 : ∀ g ∈ hs ++ [h], HOk g := fun g hg => by
            rcases List.mem_append.1 hg with h1 | h1
            · exact G g h1
            · obtain rfl := List.mem_singleton.1 h1; exact kh
          have hz' : ¬ ((hs.length : Int) ≥ 40) := by omega
          clear hrk h0 e
          go_enter Tryz.func85, Tryz.ntmps85
          go_wp2_with (first | (go_at_call 116; (first | (with_reducible refine (calls_ov2 (spec_RegionOk_eq (R3.alloc (R3.alloc (R3.alloc R _) _) _) hl HRK)).mono ?_) | refine (calls_ov (spec_RegionOk_eq (R3.alloc (R3.alloc (R3.alloc R _) _) _) hl HRK)).mono ?_); rintro e w' ⟨rfl, x, rfl⟩) | (go_at_call 115; (first | (with_reducible refine (calls_ov2 (spec_HalfOk_eq hhk)).mono ?_) | refine (calls_ov (spec_HalfOk_eq hhk)).mono ?_); rintro e w' ⟨rfl, x, rfl⟩) | (go_at_call 117; (first | (with_reducible refine (calls_ov2 (spec_IsVoid_eq HV)).mono ?_) | refine (calls_ov (spec_IsVoid_eq HV)).mono ?_); rintro e w' ⟨rfl, x, rfl⟩))
          obtain ⟨w0, hw0⟩ : ∃ w0, (w.alloc (.cells #[.slice A hs.length c] 26)).alloc (.cells #[.int .i64 h.a, .int .i64 h.b, .int .i64 h.c] 44) = w0 := ⟨_, rfl⟩
          have s0 : w0.heap.size = w.heap.size + 1 + 1 := by rw [← hw0]; simp
          have T0 : Below w.heap.size w w0 := by rw [← hw0]; exact (by repeat (first | exact bR | refine bO ?_ | refine bA ?_ | refine bS ?_ | refine bD ?_ | refine bN ?_))
          have X2 : w0.heap[w.heap.size]? = some (.cells #[.slice A hs.length c] 26 (0, 0)) := by rw [← hw0]; exact (heap_old_at (by simp)).trans (heap_alloc_new _ _)
          have X3 : w0.heap[w.heap.size + 1]? = some (.cells #[.int .i64 h.a, .int .i64 h.b, .int .i64 h.c] 44 (0, 0)) := by rw [← hw0]; exact heap_new_at (by simp) rfl
          rw [hw0, ← s0]
          have s1 : w.heap.size ≤ w0.heap.size := T0.size
          clear hw0 s0
          generalize w.heap.size + 1 = b3 at X3 ⊢
          have q2 := cell_blk (j := 0) (v := .slice A hs.length c) X2 rfl
          have y0 := cell_blk (j := 0) (v := .int .i64 h.a) X3 rfl
          have y1 := cell_blk (j := 1) (v := .int .i64 h.b) X3 rfl
          have y2 := cell_blk (j := 2) (v := .int .i64 h.c) X3 rfl
          have l2 := (Array.getElem?_eq_some_iff.1 X2).1
          have l3 := (Array.getElem?_eq_some_iff.1 X3).1
          have R0 := R.below T0
          have O0 := owned_row0
          have O3 := owned_row hs
          have O5 := owned_row [h]
          obtain ⟨ys, hys⟩ : ∃ ys, hs ++ [h] = ys := ⟨_, rfl⟩
          have HYL := Lib.hid (show ys.length = hs.length + 1 by rw [← hys]; simp)
          have HYS := Lib.hid hys
          rw [hys] at G2 HM
          clear hys
          have O6 := owned_row ys
          have O7 := owned_reg out
          clear X2 X3 R
          refine wp_region_relE (IsOld w0.heap.size 26 1) ([(0, 6), (3, 6), (5, 6)], [(7, 6), (8, 6)]) (w := w0) [.rel [] [0] false (IsOw GRow0), .pur [] ?c1, .pur [] ?c2, .rel [0] [3] false (IsOw (GRow hs)), .pur [] ?c4, .rel [] [5] false (IsOw (GRow [h])), .rel [3, 5] [6] true (IsOw (GRow ys)), .rel [6] [7] false (IsOw (GReg out)), .rel [7] [7] true (IsStB w0.heap.size 26), .pur [] ?c9] _ rfl rfl (by kernel_rfl) (by kernel_rfl) (by kernel_rfl) (by kernel_rfl) ?hst isOld_ov (ov_of_below (by repeat (first | exact bR | refine bO ?_ | refine bA ?_ | refine bS ?_ | refine bD ?_ | refine bN ?_))) ⟨#[.slice none 0 0], rfl, ov_blk (heap_new_at rfl rfl)⟩ (fun vs => ?walk)
          case' walk =>
            refine wpRelE_own rfl rfl rfl (fun x hh => ?_) ?_
            · go_wp2
              refine relEndE_own rfl rfl ?_ (by repeat (first | exact bR | refine bO ?_ | refine bA ?_ | refine bS ?_ | refine bD ?_ | refine bN ?_)) ⟨_, rfl, RB.new0 rfl (by rw [ov_size]; omega) rfl⟩
              (simp only [Act.put, List.setIfInBounds_toArray, List.set_cons_succ, List.set_cons_zero] <;> rfl)
            simp only [Act.put, List.setIfInBounds_toArray, List.set_cons_succ, List.set_cons_zero]
            (refine wpRelE_pur rfl rfl (fun x hh => by ((skip); (go_wp2); refine relEndE_pur rfl ?_ (by repeat (first | exact bR | refine bO ?_ | refine bA ?_ | refine bS ?_ | refine bD ?_ | refine bN ?_)); simp only [Act.put, List.setIfInBounds_toArray, List.set_cons_succ, List.set_cons_zero]; rfl)) ?_; simp only [Act.put, List.setIfInBounds_toArray, List.set_cons_succ, List.set_cons_zero])
            (refine wpRelE_pur rfl rfl (fun x hh => by ((skip); (go_wp2); refine relEndE_pur rfl ?_ (by repeat (first | exact bR | refine bO ?_ | refine bA ?_ | refine bS ?_ | refine bD ?_ | refine bN ?_)); simp only [Act.put, List.setIfInBounds_toArray, List.set_cons_succ, List.set_cons_zero]; rfl)) ?_; simp only [Act.put, List.setIfInBounds_toArray, List.set_cons_succ, List.set_cons_zero])
            refine wpRelE_own rfl rfl rfl (fun x hh => ?_) ?_
            · obtain ⟨b, e, _⟩ := isOw_at (hh 0 (by simp)) rfl
              simp only [e]
              go_wp2_with (at_builtin; refine wpList_append_fresh rfl _ _ rfl rfl rfl (R0.ov _) ⟨hl0, by omega⟩ ?_; intro A1 c1 w1 R1 hb1)
              refine relEndE_own rfl rfl ?_ hb1 ⟨A1, c1, rfl, R1.weak (by rw [ov_size]; omega)⟩
              (simp only [Act.put, List.setIfInBounds_toArray, List.set_cons_succ, List.set_cons_zero] <;> rfl)
            simp only [Act.put, List.setIfInBounds_toArray, List.set_cons_succ, List.set_cons_zero]
            (refine wpRelE_pur rfl rfl (fun x hh => by ((skip); (go_wp2); refine relEndE_pur rfl ?_ (by repeat (first | exact bR | refine bO ?_ | refine bA ?_ | refine bS ?_ | refine bD ?_ | refine bN ?_)); simp only [Act.put, List.setIfInBounds_toArray, List.set_cons_succ, List.set_cons_zero]; rfl)) ?_; simp only [Act.put, List.setIfInBounds_toArray, List.set_cons_succ, List.set_cons_zero])
            refine wpRelE_own rfl rfl rfl (fun x hh => ?_) ?_
            · go_wp2
              refine relEndE_own rfl rfl ?_ (by repeat (first | exact bR | refine bO ?_ | refine bA ?_ | refine bS ?_ | refine bD ?_ | refine bN ?_)) ⟨_, _, rfl, rfl, .inr ⟨_, 1, _, rfl, by rw [ov_size]; omega, heap_alloc_new _ _, Nat.le_refl _, by unfold maxLen; omega, rfl, rfl⟩⟩
              (simp only [Act.put, List.setIfInBounds_toArray, List.set_cons_succ, List.set_cons_zero] <;> rfl)
            simp only [Act.put, List.setIfInBounds_toArray, List.set_cons_succ, List.set_cons_zero]
            refine wpRelE_app rfl rfl rfl (fun x he hh => ?_) ?_
            · obtain ⟨A3, c3, e3, R3'⟩ := isOw_at (hh 3 (by simp)) rfl
              obtain ⟨A5, c5, e5, R5⟩ := isOw_at (hh 5 (by simp)) rfl
              simp only [e3, e5]
              go_wp2_with (at_builtin; refine wpList_append_rowsG (os := hs) (xs := [h]) rfl _ _ rfl w0.heap.size HYS.out rfl R3' rfl R5.r3 (by simp; omega) (by rw [ov_size]; omega) ?_; intro A6 c6 w6 R6 hg6)
              refine relEndE_app rfl rfl ?_ (by repeat (first | exact bR | refine bO ?_ | refine bA ?_ | refine bS ?_ | refine bD ?_ | refine bN ?_)) he (by decide) R3' hg6 ⟨A6, c6, rfl, R6⟩ rfl
              (simp only [Act.put, List.setIfInBounds_toArray, List.set_cons_succ, List.set_cons_zero] <;> rfl)
            simp only [Act.put, List.setIfInBounds_toArray, List.set_cons_succ, List.set_cons_zero]
            refine wpRelE_own rfl rfl rfl (fun x hh => ?_) ?_
            · obtain ⟨A6, c6, e6, R6⟩ := isOw_at (hh 6 (by simp)) rfl
              simp only [e6]
              go_wp2_with fail
              refine (l05Make_eq G2 R6.r3 (by have := HYL.out; omega) HM).mono ?_
              rintro e w7 ⟨A7, c7, rfl, R7, hb7⟩
              go_wp2
              refine relEndE_own rfl rfl ?_ hb7 ⟨A7, c7, rfl, R7.weak (by rw [ov_size]; omega)⟩
              (simp only [Act.put, List.setIfInBounds_toArray, List.set_cons_succ, List.set_cons_zero] <;> rfl)
            simp only [Act.put, List.setIfInBounds_toArray, List.set_cons_succ, List.set_cons_zero]
            refine wpRelE_old rfl rfl rfl rfl (by decide) rfl (Nat.le_refl _) (vv_rel rfl) rfl (by kernel_rfl) (fun w hw => by obtain ⟨A, c, e, _⟩ := isOw_at hw rfl; rw [e]; exact reg_cells _ _ _) (by repeat (first | exact all_nil | refine all_cons trivial ?_ | refine all_cons isAl_steady ?_ | refine all_cons (isOw_steady (by assumption)) ?_)) ?_
            (refine wpRelE_pur rfl rfl (fun x hh => by ((skip); (go_wp2); refine relEndE_pur rfl ?_ (by repeat (first | exact bR | refine bO ?_ | refine bA ?_ | refine bS ?_ | refine bD ?_ | refine bN ?_)); simp only [Act.put, List.setIfInBounds_toArray, List.set_cons_succ, List.set_cons_zero]; rfl)) ?_; simp only [Act.put, List.setIfInBounds_toArray, List.set_cons_succ, List.set_cons_zero])
            refine wpRelE_nil (fun wp hbp hEp hh => ?_)
            obtain ⟨A7, c7, e7, R7⟩ := isOw_at (hh 7 (by intro k hk; simp at hk)) rfl
            have hX := isStB_own (hh 8 (by intro k hk; simp at hk)) rfl rfl
            rw [e7] at hX
            have x4 := cell_blk (j := 0) (v := .slice A7 out.length c7) hX rfl
            have l4 := (Array.getElem?_eq_some_iff.1 hX).1
            have hbw : Below w.heap.size w wp := T0.trans (hbp.mono s1)
            have R8 := R7.weak s1
            clear hX hh R7 e7
            go_wp2
            refine bodyPost_ret (v := .tuple #[.agg #[.slice A7 out.length c7], .bool true]) (by simp [results, Tryz.results85, go_sem, x4, l4]) rfl ⟨A7, c7, rfl, R8, hbw⟩
          case' hst => exact (by repeat (first | exact all_nil | refine all_cons trivial ?_ | refine all_cons isAl_stable ?_ | refine all_cons isSt_stable ?_ | refine all_cons isStB_stable ?_ | refine all_cons (isOw_stable (by assumption)) ?_))
      · rw [if_neg (by omega)] at hr'
        simp at hr'
        obtain ⟨rfl, rfl⟩ := hr'
        clear hrk
        go_enter Tryz.func85, Tryz.ntmps85
        go_wp2_with (first | (go_at_call 116; (first | (with_reducible refine (calls_ov2 (spec_RegionOk_eq (R3.alloc (R3.alloc (R3.alloc R _) _) _) hl HRK)).mono ?_) | refine (calls_ov (spec_RegionOk_eq (R3.alloc (R3.alloc (R3.alloc R _) _) _) hl HRK)).mono ?_); rintro e w' ⟨rfl, x, rfl⟩) | (go_at_call 115; (first | (with_reducible refine (calls_ov2 (spec_HalfOk_eq hhk)).mono ?_) | refine (calls_ov (spec_HalfOk_eq hhk)).mono ?_); rintro e w' ⟨rfl, x, rfl⟩))
        refine bodyPost_ret (v := .tuple #[.agg #[.slice none 0 0], .bool false]) (by simp [results, Tryz.results85, go_sem]) rfl ⟨none, 0, rfl, RB.nil _ _ _, (by repeat (first | exact bR | refine bO ?_ | refine bA ?_ | refine bS ?_ | refine bD ?_ | refine bN ?_))⟩

set_option maxRecDepth 100000 in
set_option maxHeartbeats 1000000 in
theorem impl_CutRegion_eq {hs out : List H3} {h : H3} {ok : Bool} {A : Option Addr} {c : Nat} {w : World} (R : R3 44 w A c hs) (hl : hs.length ≤ 1000000000) (hr : Hid (cutR hs h = (out, ok))) :
    Calls Tryz.prog 18 #[.agg #[.slice A hs.length c], .agg #[.int .i64 h.a, .int .i64 h.b, .int .i64 h.c]] w (RegPost w out ok) := by
  have hr' := hr.out
  clear hr
  obtain ⟨rk, hrk⟩ : ∃ v, regionOk hs = v := ⟨_, rfl⟩
  obtain ⟨hk, hhk⟩ : ∃ v, halfOk h = v := ⟨_, rfl⟩
  have HRK := Lib.hid hrk
  unfold cutR at hr'
  rw [hrk, hhk] at hr'
  cases rk with
  | false =>
    rw [if_neg (by simp)] at hr'
    simp at hr'
    obtain ⟨rfl, rfl⟩ := hr'
    clear hrk
    cases hk
    all_goals
      go_enter Tryz.func18, Tryz.ntmps18
      go_wp2_with (first | (go_at_call 51; (first | (with_reducible refine (calls_ov2 (impl_RegionOk_eq (by repeat (first | assumption | refine R3.ov ?_ _ | refine R3.alloc ?_ _)) hl HRK)).mono ?_) | refine (calls_ov (impl_RegionOk_eq (by repeat (first | assumption | refine R3.ov ?_ _ | refine R3.alloc ?_ _)) hl HRK)).mono ?_); rintro e w' ⟨rfl, x, rfl⟩) | (go_at_call 55; (first | (with_reducible refine (calls_ov2 (impl_HalfOk_eq hhk)).mono ?_) | refine (calls_ov (impl_HalfOk_eq hhk)).mono ?_); rintro e w' ⟨rfl, x, rfl⟩))
      refine bodyPost_ret (v := .tuple #[.agg #[.slice none 0 0], .bool false]) (by simp [results, Tryz.results18, go_sem]) rfl ⟨none, 0, rfl, RB.nil _ _ _, (by repeat (first | exact bR | refine bO ?_ | refine bA ?_ | refine bS ?_ | refine bD ?_ | refine bN ?_))⟩
  | true =>
    cases hk with
    | false =>
      rw [if_neg (by simp)] at hr'
      simp at hr'
      obtain ⟨rfl, rfl⟩ := hr'
      clear hrk
      go_enter Tryz.func18, Tryz.ntmps18
      go_wp2_with (first | (go_at_call 51; (first | (with_reducible refine (calls_ov2 (impl_RegionOk_eq (by repeat (first | assumption | refine R3.ov ?_ _ | refine R3.alloc ?_ _)) hl HRK)).mono ?_) | refine (calls_ov (impl_RegionOk_eq (by repeat (first | assumption | refine R3.ov ?_ _ | refine R3.alloc ?_ _)) hl HRK)).mono ?_); rintro e w' ⟨rfl, x, rfl⟩) | (go_at_call 55; (first | (with_reducible refine (calls_ov2 (impl_HalfOk_eq hhk)).mono ?_) | refine (calls_ov (impl_HalfOk_eq hhk)).mono ?_); rintro e w' ⟨rfl, x, rfl⟩))
      refine bodyPost_ret (v := .tuple #[.agg #[.slice none 0 0], .bool false]) (by simp [results, Tryz.results18, go_sem]) rfl ⟨none, 0, rfl, RB.nil _ _ _, (by repeat (first | exact bR | refine bO ?_ | refine bA ?_ | refine bS ?_ | refine bD ?_ | refine bN ?_))⟩
    | true =>
      by_cases h40 : hs.length < 40
      · rw [if_pos ⟨rfl, rfl, h40⟩] at hr'
        by_cases h0 : hs = []
        · rw [if_pos h0] at hr'
          simp at hr'
          obtain ⟨rfl, rfl⟩ := hr'
          have HV : Hid (decide (hs.length = 0) = true) := Lib.hid (by rw [h0]; rfl)
          clear hrk h0
          go_enter Tryz.func18, Tryz.ntmps18
          go_wp2_with (first | (go_at_call 51; (first | (with_reducible refine (calls_ov2 (impl_RegionOk_eq (by repeat (first | assumption | refine R3.ov ?_ _ | refine R3.alloc ?_ _)) hl HRK)).mono ?_) | refine (calls_ov (impl_RegionOk_eq (by repeat (first | assumption | refine R3.ov ?_ _ | refine R3.alloc ?_ _)) hl HRK)).mono ?_); rintro e w' ⟨rfl, x, rfl⟩) | (go_at_call 55; (first | (with_reducible refine (calls_ov2 (impl_HalfOk_eq hhk)).mono ?_) | refine (calls_ov (impl_HalfOk_eq hhk)).mono ?_); rintro e w' ⟨rfl, x, rfl⟩) | (go_at_call 20; (first | (with_reducible refine (calls_ov2 (IsVoid_eq HV)).mono ?_) | refine (calls_ov (IsVoid_eq HV)).mono ?_); rintro e w' ⟨rfl, x, rfl⟩))
          refine bodyPost_ret (v := .tuple #[.agg #[.slice none 0 0], .bool true]) (by simp [results, Tryz.results18, go_sem]) rfl ⟨none, 0, rfl, RB.nil _ _ _, (by repeat (first | exact bR | refine bO ?_ | refine bA ?_ | refine bS ?_ | refine bD ?_ | refine bN ?_))⟩
        · rw [if_neg h0] at hr'
          simp at hr'
          obtain ⟨e, rfl⟩ := hr'
          subst e
          have HM0 := cut_few (h := h) hrk h0 ((halfOk_iff h).1 hhk) h40
          have hl0 : 0 < hs.length := List.length_pos_iff.2 h0
          have HV : Hid (decide (hs.length = 0) = false) := Lib.hid (decide_eq_false (by omega))
          obtain ⟨G, _, _⟩ := regionOk_parts hrk h0
          have kh := (halfOk_iff h).1 hhk
          have G2 : ∀ g ∈ hs ++ [h], HOk g := fun g hg => by
            rcases List.mem_append.1 hg with h1 | h1
            · exact G g h1
            · obtain rfl := List.mem_singleton.1 h1; exact kh
          have hz' : ¬ ((hs.length : Int) ≥ 40) := by omega
          obtain ⟨ys, hys⟩ : ∃ ys, hs ++ [h] = ys := ⟨_, rfl⟩
          have HYL := Lib.hid (show ys.length = hs.length + 1 by rw [← hys]; simp)
          have HYS := Lib.hid hys
          rw [hys] at G2 HM0 ⊢
          obtain ⟨out, hout⟩ : ∃ out, makeR ys = out := ⟨_, rfl⟩
          rw [hout] at HM0 ⊢
          have HM := Lib.hid HM0
          clear hys hout HM0
          clear hrk h0
          go_enter Tryz.func18, Tryz.ntmps18
          go_wp2_with (first | (go_at_call 51; (first | (with_reducible refine (calls_ov2 (impl_RegionOk_eq (by repeat (first | assumption | refine R3.ov ?_ _ | refine R3.alloc ?_ _)) hl HRK)).mono ?_) | refine (calls_ov (impl_RegionOk_eq (by repeat (first | assumption | refine R3.ov ?_ _ | refine R3.alloc ?_ _)) hl HRK)).mono ?_); rintro e w' ⟨rfl, x, rfl⟩) | (go_at_call 55; (first | (with_reducible refine (calls_ov2 (impl_HalfOk_eq hhk)).mono ?_) | refine (calls_ov (impl_HalfOk_eq hhk)).mono ?_); rintro e w' ⟨rfl, x, rfl⟩) | (go_at_call 20; (first | (with_reducible refine (calls_ov2 (IsVoid_eq HV)).mono ?_) | refine (calls_ov (IsVoid_eq HV)).mono ?_); rintro e w' ⟨rfl, x, rfl⟩))
          obtain ⟨w0, hw0⟩ : ∃ w0, (w.alloc (.cells #[.slice A hs.length c] 26)).alloc (.cells #[.int .i64 h.a, .int .i64 h.b, .int .i64 h.c] 44) = w0 := ⟨_, rfl⟩
          have s0 : w0.heap.size = w.heap.size + 1 + 1 := by rw [← hw0]; simp
          have T0 : Below w.heap.size w w0 := by rw [← hw0]; exact (by repeat (first | exact bR | refine bO ?_ | refine bA ?_ | refine bS ?_ | refine bD ?_ | refine bN ?_))
          have X2 : w0.heap[w.heap.size]? = some (.cells #[.slice A hs.length c] 26 (0, 0)) := by rw [← hw0]; exact (heap_old_at (by simp)).trans (heap_alloc_new _ _)
          have X3 : w0.heap[w.heap.size + 1]? = some (.cells #[.int .i64 h.a, .int .i64 h.b, .int .i64 h.c] 44 (0, 0)) := by rw [← hw0]; exact heap_new_at (by simp) rfl
          rw [hw0, ← s0]
          have s1 : w.heap.size ≤ w0.heap.size := T0.size
          clear hw0 s0
          generalize w.heap.size + 1 = b3 at X3 ⊢
          have q2 := cell_blk (j := 0) (v := .slice A hs.length c) X2 rfl
          have y0 := cell_blk (j := 0) (v := .int .i64 h.a) X3 rfl
          have y1 := cell_blk (j := 1) (v := .int .i64 h.b) X3 rfl
          have y2 := cell_blk (j := 2) (v := .int .i64 h.c) X3 rfl
          have l2 := (Array.getElem?_eq_some_iff.1 X2).1
          have l3 := (Array.getElem?_eq_some_iff.1 X3).1
          have R0 := R.below T0
          have O3 := owned_row hs
          have O5 := owned_row [h]
          have O6 := owned_row ys
          have O7 := owned_reg out
          have O8 := owned_tup out true
          clear X2 X3 R
          refine wp_region_relE (IsOld w0.heap.size 26 1) ([(2, 5), (4, 5)], [(6, 5), (7, 5), (9, 5)]) (w := w0) [.pur [] ?c0, .pur [] ?c1, .rel [] [2] false (IsOw (GRow hs)), .pur [] ?c3, .rel [] [4] false (IsOw (GRow [h])), .rel [2, 4] [5] true (IsOw (GRow ys)), .rel [5] [6] false (IsOw (GTup out true)), .rel [6] [7] false (IsOw (GReg out)), .pur [6] ?c8, .rel [7] [7] true (IsStB w0.heap.size 26), .pur [] ?c10] _ rfl rfl (by kernel_rfl) (by kernel_rfl) (by kernel_rfl) (by kernel_rfl) ?hst isOld_ov (ov_of_below (by repeat (first | exact bR | refine bO ?_ | refine bA ?_ | refine bS ?_ | refine bD ?_ | refine bN ?_))) ⟨#[.slice none 0 0], rfl, ov_blk (heap_new_at rfl rfl)⟩ (fun vs => ?walk)
          case' walk =>
            (refine wpRelE_pur rfl rfl (fun x hh => by ((skip); (go_wp2); refine relEndE_pur rfl ?_ (by repeat (first | exact bR | refine bO ?_ | refine bA ?_ | refine bS ?_ | refine bD ?_ | refine bN ?_)); simp only [Act.put, List.setIfInBounds_toArray, List.set_cons_succ, List.set_cons_zero]; rfl)) ?_; simp only [Act.put, List.setIfInBounds_toArray, List.set_cons_succ, List.set_cons_zero])
            (refine wpRelE_pur rfl rfl (fun x hh => by ((skip); (go_wp2); refine relEndE_pur rfl ?_ (by repeat (first | exact bR | refine bO ?_ | refine bA ?_ | refine bS ?_ | refine bD ?_ | refine bN ?_)); simp only [Act.put, List.setIfInBounds_toArray, List.set_cons_succ, List.set_cons_zero]; rfl)) ?_; simp only [Act.put, List.setIfInBounds_toArray, List.set_cons_succ, List.set_cons_zero])
            refine wpRelE_own rfl rfl rfl (fun x hh => ?_) ?_
            · go_wp2_with fail
              refine (Clone_any (R0.ov _) ⟨hl0, by omega⟩).mono ?_
              rintro e w7 ⟨A7, c7, rfl, R7, hb7⟩
              go_wp2
              refine relEndE_own rfl rfl ?_ hb7 ⟨A7, c7, rfl, R7.weak (by rw [ov_size]; omega)⟩
              (simp only [Act.put, List.setIfInBounds_toArray, List.set_cons_succ, List.set_cons_zero] <;> rfl)
            simp only [Act.put, List.setIfInBounds_toArray, List.set_cons_succ, List.set_cons_zero]
            (refine wpRelE_pur rfl rfl (fun x hh => by ((skip); (go_wp2); refine relEndE_pur rfl ?_ (by repeat (first | exact bR | refine bO ?_ | refine bA ?_ | refine bS ?_ | refine bD ?_ | refine bN ?_)); simp only [Act.put, List.setIfInBounds_toArray, List.set_cons_succ, List.set_cons_zero]; rfl)) ?_; simp only [Act.put, List.setIfInBounds_toArray, List.set_cons_succ, List.set_cons_zero])
            refine wpRelE_own rfl rfl rfl (fun x hh => ?_) ?_
            · go_wp2
              refine relEndE_own rfl rfl ?_ (by repeat (first | exact bR | refine bO ?_ | refine bA ?_ | refine bS ?_ | refine bD ?_ | refine bN ?_)) ⟨_, _, rfl, rfl, .inr ⟨_, 1, _, rfl, by rw [ov_size]; omega, heap_alloc_new _ _, Nat.le_refl _, by unfold maxLen; omega, rfl, rfl⟩⟩
              (simp only [Act.put, List.setIfInBounds_toArray, List.set_cons_succ, List.set_cons_zero] <;> rfl)
            simp only [Act.put, List.setIfInBounds_toArray, List.set_cons_succ, List.set_cons_zero]
            refine wpRelE_app rfl rfl rfl (fun x he hh => ?_) ?_
            · obtain ⟨A3, c3, e3, R3'⟩ := isOw_at (hh 2 (by simp)) rfl
              obtain ⟨A5, c5, e5, R5⟩ := isOw_at (hh 4 (by simp)) rfl
              simp only [e3, e5]
              go_wp2_with (at_builtin; refine wpList_append_rowsG (os := hs) (xs := [h]) rfl _ _ rfl w0.heap.size HYS.out rfl R3' rfl R5.r3 (by simp; omega) (by rw [ov_size]; omega) ?_; intro A6 c6 w6 R6 hg6)
              refine relEndE_app rfl rfl ?_ (by repeat (first | exact bR | refine bO ?_ | refine bA ?_ | refine bS ?_ | refine bD ?_ | refine bN ?_)) he (by decide) R3' hg6 ⟨A6, c6, rfl, R6⟩ rfl
              (simp only [Act.put, List.setIfInBounds_toArray, List.set_cons_succ, List.set_cons_zero] <;> rfl)
            simp only [Act.put, List.setIfInBounds_toArray, List.set_cons_succ, List.set_cons_zero]
            refine wpRelE_own rfl rfl rfl (fun x hh => ?_) ?_
            · obtain ⟨A6, c6, e6, R6⟩ := isOw_at (hh 5 (by simp)) rfl
              simp only [e6]
              go_wp2_with fail
              refine (meetAll_any G2 R6.r3 ⟨by have := HYL.out; omega, by have := HYL.out; omega⟩ HM).mono ?_
              rintro e w7 ⟨A7, c7, rfl, R7, hb7⟩
              go_wp2
              refine relEndE_own rfl rfl ?_ hb7 ⟨A7, c7, rfl, R7.weak (by rw [ov_size]; omega)⟩
              (simp only [Act.put, List.setIfInBounds_toArray, List.set_cons_succ, List.set_cons_zero] <;> rfl)
            simp only [Act.put, List.setIfInBounds_toArray, List.set_cons_succ, List.set_cons_zero]
            refine wpRelE_own rfl rfl rfl (fun x hh => ?_) ?_
            · obtain ⟨A6, c6, e6, R6⟩ := isOw_at (hh 6 (by simp)) rfl
              simp only [e6]
              go_wp2
              refine relEndE_own rfl rfl ?_ (Below.refl _ _) ⟨A6, c6, rfl, R6⟩
              (simp only [Act.put, List.setIfInBounds_toArray, List.set_cons_succ, List.set_cons_zero] <;> rfl)
            simp only [Act.put, List.setIfInBounds_toArray, List.set_cons_succ, List.set_cons_zero]
            (refine wpRelE_pur rfl rfl (fun x hh => by ((obtain ⟨A6, c6, e6, R6⟩ := isOw_at (hh 6 (by simp)) rfl); (go_wp2_with (first | simp only [e6];)); refine relEndE_pur rfl ?_ (by repeat (first | exact bR | refine bO ?_ | refine bA ?_ | refine bS ?_ | refine bD ?_ | refine bN ?_)); simp only [Act.put, List.setIfInBounds_toArray, List.set_cons_succ, List.set_cons_zero]; rfl)) ?_; simp only [Act.put, List.setIfInBounds_toArray, List.set_cons_succ, List.set_cons_zero])
            refine wpRelE_old rfl rfl rfl rfl (by decide) rfl (Nat.le_refl _) (vv_rel rfl) rfl (by kernel_rfl) (fun w hw => by obtain ⟨A, c, e, _⟩ := isOw_at hw rfl; rw [e]; exact reg_cells _ _ _) (by repeat (first | exact all_nil | refine all_cons trivial ?_ | refine all_cons isAl_steady ?_ | refine all_cons (isOw_steady (by assumption)) ?_)) ?_
            (refine wpRelE_pur rfl rfl (fun x hh => by ((skip); (go_wp2); refine relEndE_pur rfl ?_ (by repeat (first | exact bR | refine bO ?_ | refine bA ?_ | refine bS ?_ | refine bD ?_ | refine bN ?_)); simp only [Act.put, List.setIfInBounds_toArray, List.set_cons_succ, List.set_cons_zero]; rfl)) ?_; simp only [Act.put, List.setIfInBounds_toArray, List.set_cons_succ, List.set_cons_zero])
            refine wpRelE_nil (fun wp hbp hEp hh => ?_)
            obtain ⟨A7, c7, e7, R7⟩ := isOw_at (hh 7 (by intro k hk; simp at hk)) rfl
            have hX := isStB_own (hh 9 (by intro k hk; simp at hk)) rfl rfl
            rw [e7] at hX
            have x4 := cell_blk (j := 0) (v := .slice A7 out.length c7) hX rfl
            have l4 := (Array.getElem?_eq_some_iff.1 hX).1
            have hbw : Below w.heap.size w wp := T0.trans (hbp.mono s1)
            have R8 := R7.weak s1
            clear hX hh R7 e7
            go_wp2
            refine bodyPost_ret (v := .tuple #[.agg #[.slice A7 out.length c7], .bool true]) (by simp [results, Tryz.results18, go_sem, x4, l4]) rfl ⟨A7, c7, rfl, R8, hbw⟩
          case' hst => exact (by repeat (first | exact all_nil | refine all_cons trivial ?_ | refine all_cons isAl_stable ?_ | refine all_cons isSt_stable ?_ | refine all_cons isStB_stable ?_ | refine all_cons (isOw_stable (by assumption)) ?_))
      · rw [if_neg (by omega)] at hr'
        simp at hr'
        obtain ⟨rfl, rfl⟩ := hr'
        clear hrk
        go_enter Tryz.func18, Tryz.ntmps18
        go_wp2_with (first | (go_at_call 51; (first | (with_reducible refine (calls_ov2 (impl_RegionOk_eq (by repeat (first | assumption | refine R3.ov ?_ _ | refine R3.alloc ?_ _)) hl HRK)).mono ?_) | refine (calls_ov (impl_RegionOk_eq (by repeat (first | assumption | refine R3.ov ?_ _ | refine R3.alloc ?_ _)) hl HRK)).mono ?_); rintro e w' ⟨rfl, x, rfl⟩) | (go_at_call 55; (first | (with_reducible refine (calls_ov2 (impl_HalfOk_eq hhk)).mono ?_) | refine (calls_ov (impl_HalfOk_eq hhk)).mono ?_); rintro e w' ⟨rfl, x, rfl⟩))
        refine bodyPost_ret (v := .tuple #[.agg #[.slice none 0 0], .bool false]) (by simp [results, Tryz.results18, go_sem]) rfl ⟨none, 0, rfl, RB.nil _ _ _, (by repeat (first | exact bR | refine bO ?_ | refine bA ?_ | refine bS ?_ | refine bD ?_ | refine bN ?_))⟩
end Go.Proofs.YtabmfaamadbefaaGreat