/- Contracts of the reference's l05Fit, RegionFrom, SameRegion, IsVoid and RegionOk. No condition but that lengths are ints. -/
import Derived.Test.YtgdleimdenbnlaaMk
import Derived.Test.YtgdleimdenbnlaaRo
set_option linter.unusedSimpArgs false
set_option linter.unusedVariables false
set_option linter.unusedSectionVars false
namespace Go.Proofs.Ytgdleimdenbnlaa
open Go.RowKit

theorem meetR_makeR {hs : List H3} (G : ∀ g ∈ hs, HOk g) : meetR hs = if 40 < (makeR hs).length then ([], false) else (makeR hs, true) := by
  unfold meetR
  rw [make_eq (good_sorted G)]
  rfl
theorem heap_new_at {w : World} {o : Obj} {n : Nat} {r : Option Obj} (hn : n = w.heap.size) (hr : r = some o) : (w.alloc o).heap[n]? = r := by subst hn hr; exact heap_alloc_new _ _
theorem heap_old_at {w : World} {o : Obj} {n : Nat} (hn : n < w.heap.size) : (w.alloc o).heap[n]? = w.heap[n]? := ((Below.refl w.heap.size w).alloc (Nat.le_refl _) o).block n hn
theorem fromR_short {hs out : List H3} {ok : Bool} (h : fromR hs = (out, ok)) : out.length ≤ 40 := by
  unfold fromR meetR at h
  split at h
  · split at h
    · simp at h; rw [h.1]; simp
    · simp at h; rw [← h.1]; omega
  · simp at h; rw [h.1]; simp

set_option maxHeartbeats 1000000 in
theorem l05Fit_eq {hs out : List H3} {ok : Bool} {A : Option Addr} {c : Nat} {w : World} (G : ∀ g ∈ hs, HOk g) (R : R3 49 w A c hs) (hl : hs.length ≤ 300) (hr : Hid (meetR hs = (out, ok))) :
    Calls Try.prog 81 #[.slice A hs.length c] w (RegPost w out ok) := by
  obtain ⟨m, hm⟩ : ∃ m, makeR hs = m := ⟨_, rfl⟩
  have h' := hr.out
  rw [meetR_makeR G, hm] at h'
  have HM := Lib.hid hm
  clear hm hr
  go_enter Try.func81, Try.ntmps81
  go_wp2_with fail
  refine (l05Make_eq G (R3.alloc R _) hl HM).mono ?_
  rintro e w1 ⟨A1, c1, rfl, R1, hb1⟩
  have hbw : Below w.heap.size w w1 := ((Below.refl _ _).alloc (Nat.le_refl _) _).trans (hb1.mono (by simp))
  have HX := Lib.hid ((hb1.block w.heap.size (by simp)).trans (heap_alloc_new _ _))
  have x2 := cell_blk (j := 0) (v := .slice none 0 0) HX.out rfl
  have f2 := frozen_blk (j := 0) HX.out
  have l2 := (Array.getElem?_eq_some_iff.1 HX.out).1
  have HR1 := R1.weak (B' := w.heap.size) (by simp)
  clear R1 hb1
  by_cases h40 : 40 < m.length
  · rw [if_pos h40] at h'
    simp at h'
    obtain ⟨rfl, rfl⟩ := h'
    go_wp2
    refine bodyPost_ret (v := .tuple #[.agg #[.slice none 0 0], .bool false]) (by simp [results, Try.results81, go_sem, x2, l2]) rfl ⟨none, 0, rfl, RB.nil _ _ _, ?_⟩
    exact (by repeat (first | exact hbw | refine bO ?_ | refine bA ?_ | refine bS ?_ | refine bD ?_ | refine bN ?_))
  · rw [if_neg h40] at h'
    simp at h'
    obtain ⟨rfl, rfl⟩ := h'
    go_wp2
    refine bodyPost_ret (v := .tuple #[.agg #[.slice A1 m.length c1], .bool true]) (by simp [results, Try.results81, go_sem, x2, l2]) rfl ⟨A1, c1, rfl, ?_, ?_⟩
    · exact RB.below (HR1.set_box HX.out (by decide)) (by repeat (first | exact bR | refine bO ?_ | refine bA ?_ | refine bS ?_ | refine bD ?_ | refine bN ?_))
    · exact (by repeat (first | exact hbw | refine bO ?_ | refine bA ?_ | refine bS ?_ | refine bD ?_ | refine bN ?_))

set_option maxHeartbeats 1000000 in
theorem spec_RegionFrom_eq {hs out : List H3} {ok : Bool} {A : Option Addr} {c : Nat} {w : World} (R : R3 49 w A c hs) (hl : hs.length ≤ 1000000000) (h : Hid (fromR hs = (out, ok))) :
    Calls Try.prog 110 #[.slice A hs.length c] w (RegPost w out ok) := by
  by_cases h40 : 40 < hs.length
  · have h' := h.out
    unfold fromR at h'
    rw [if_neg (by omega)] at h'
    simp at h'
    obtain ⟨rfl, rfl⟩ := h'
    go_enter Try.func110, Try.ntmps110
    go_wp2
    refine bodyPost_ret (v := .tuple #[.agg #[.slice none 0 0], .bool false]) (by simp [results, Try.results110, go_sem]) rfl ⟨none, 0, rfl, RB.nil _ _ _, (by repeat (first | exact bR | refine bO ?_ | refine bA ?_ | refine bS ?_ | refine bD ?_ | refine bN ?_))⟩
  · go_enter Try.func110, Try.ntmps110
    go_wp2
    go_loopw [12] (fun i wr => ∃ k : Nat, k ≤ hs.length ∧ i = .int .i64 k ∧ Hid ((hs.take k).all halfOk = true) ∧ Below (w.heap.size + 1) (w.alloc (.cells #[.slice none 0 0] 34)) wr) (fun i _ => hs.length - (intOf i).toNat)
    case atStart => exact ⟨0, Nat.zero_le _, rfl, Lib.hid rfl, Below.refl _ _⟩
    case round =>
      obtain ⟨k, hk, rfl, HA, hb⟩ := hrel
      have hbw : Below w.heap.size w wr := ((Below.refl _ _).alloc (Nat.le_refl _) _).trans (hb.mono (by omega))
      have hbs := hb.size
      have hbs' := hbw.size
      have HX := Lib.hid ((hb.block w.heap.size (by omega)).trans (heap_alloc_new _ _))
      have x2 := cell_blk (j := 0) (v := .slice none 0 0) HX.out rfl
      have f2 := frozen_blk (j := 0) HX.out
      have l2 := (Array.getElem?_eq_some_iff.1 HX.out).1
      by_cases hlt : k < hs.length
      · obtain ⟨g0, rfl, hg0, z0, z1, z2⟩ := (R.below hbw).at_ hlt
        have HT := Lib.hid (all_take_succ halfOk hs k hlt)
        obtain ⟨b, hb0⟩ : ∃ b, halfOk hs[k] = b := ⟨_, rfl⟩
        have HB := Lib.hid hb0
        clear hb0
        cases b with
        | true =>
          go_wp2_with ((go_at_call 56; (first | (with_reducible refine (calls_ov2 (spec_HalfOk_eq HB.out)).mono ?_) | refine (calls_ov (spec_HalfOk_eq HB.out)).mono ?_); rintro e w' ⟨rfl, x, rfl⟩))
          go_roundw
          case rel => exact ⟨k + 1, by omega, by go_num, Lib.hid (by rw [HT.out, HA.out, HB.out]; rfl), (by repeat (first | exact hb | refine bO ?_ | refine bA ?_ | refine bS ?_ | refine bD ?_ | refine bN ?_))⟩
          case measure => simp [intOf]; omega
        | false =>
          have hall : hs.all halfOk = false := by
            rw [List.all_eq_false]
            exact ⟨hs[k], List.getElem_mem hlt, by rw [HB.out]; simp⟩
          have h' := h.out
          unfold fromR at h'
          rw [if_neg (by simp [hall])] at h'
          simp at h'
          obtain ⟨rfl, rfl⟩ := h'
          clear hall
          go_wp2_with ((go_at_call 56; (first | (with_reducible refine (calls_ov2 (spec_HalfOk_eq HB.out)).mono ?_) | refine (calls_ov (spec_HalfOk_eq HB.out)).mono ?_); rintro e w' ⟨rfl, x, rfl⟩))
          refine bodyPost_ret (v := .tuple #[.agg #[.slice none 0 0], .bool false]) (by simp [results, Try.results110, go_sem, x2, l2]) rfl ⟨none, 0, rfl, RB.nil _ _ _, ?_⟩
          exact (by repeat (first | exact hbw | refine bO ?_ | refine bA ?_ | refine bS ?_ | refine bD ?_ | refine bN ?_))
      · obtain rfl : k = hs.length := by omega
        have hall := HA.out
        rw [List.take_length] at hall
        have h' := h.out
        unfold fromR at h'
        rw [if_pos ⟨by omega, hall⟩] at h'
        have HM := Lib.hid h'
        have G := allOk hall
        clear hall h'
        go_wp2_with fail
        refine (l05Fit_eq G (R.below hbw) (by omega) HM).mono ?_
        rintro e w1 ⟨A1, c1, rfl, R1, hb1⟩
        have hbw1 : Below w.heap.size w w1 := hbw.trans (hb1.mono hbs')
        have HY := Lib.hid ((hb1.block _ l2).trans HX.out)
        have y2 := cell_blk (j := 0) (v := .slice none 0 0) HY.out rfl
        have g2 := frozen_blk (j := 0) HY.out
        have m2 := (Array.getElem?_eq_some_iff.1 HY.out).1
        have HR1 := R1.weak (B' := w.heap.size) hbs'
        clear R1 hb1
        go_wp2
        refine bodyPost_ret (v := .tuple #[.agg #[.slice A1 out.length c1], .bool ok]) (by simp [results, Try.results110, go_sem, y2, m2]) rfl ⟨A1, c1, rfl, HR1.set_box HY.out (by decide), hbw1.setCell (show w.heap.size ≤ (⟨w.heap.size, 0, none⟩ : Addr).block from Nat.le_refl _) _⟩

set_option maxHeartbeats 1000000 in
theorem spec_SameRegion_eq {xs ys : List H3} {A1 A2 : Option Addr} {c1 c2 : Nat} {w : World} {v : Bool} (R1 : R3 49 w A1 c1 xs) (R2 : R3 49 w A2 c2 ys) (hx : xs.length ≤ 1000000000) (hy : ys.length ≤ 1000000000) (h : Hid (decide (xs = ys) = v)) :
    Calls Try.prog 92 #[.agg #[.slice A1 xs.length c1], .agg #[.slice A2 ys.length c2]] w fun e w' => e = .returned (.bool v) ∧ Below w.heap.size w w' := by
  by_cases hne : xs.length = ys.length
  · have hz : ((xs.length : Int) != (ys.length : Int)) = false := by simp; omega
    have HNE := Lib.hid hne
    clear hne
    go_enter Try.func92, Try.ntmps92
    go_wp2
    go_loopw [17] (fun i wr => ∃ k : Nat, k ≤ xs.length ∧ i = .int .i64 k ∧ Hid (xs.take k = ys.take k) ∧ Below (w.heap.size + 1 + 1) ((w.alloc (.cells #[.slice A1 xs.length c1] 34)).alloc (.cells #[.slice A2 ys.length c2] 34)) wr) (fun i _ => xs.length - (intOf i).toNat)
    case atStart => exact ⟨0, Nat.zero_le _, rfl, Lib.hid rfl, Below.refl _ _⟩
    case round =>
      obtain ⟨k, hk, rfl, HA, hb⟩ := hrel
      have hbw : Below w.heap.size w wr := (((Below.refl _ _).alloc (Nat.le_refl _) _).alloc (by simp) _).trans (hb.mono (by omega))
      have hbs := hb.size
      have hbs' := hbw.size
      have HX := Lib.hid ((hb.block (w.heap.size + 1) (by omega)).trans (heap_new_at (r := some (.cells #[.slice A2 ys.length c2] 34 (0, 0))) (by simp) rfl))
      have x2 := cell_blk (j := 0) (v := .slice A2 ys.length c2) HX.out rfl
      have l2 := (Array.getElem?_eq_some_iff.1 HX.out).1
      clear HX
      generalize w.heap.size + 1 = nq at x2 l2 hb ⊢
      by_cases hlt : k < xs.length
      · have hlt2 : k < ys.length := by have := HNE.out; omega
        obtain ⟨g1, rfl, hg1, z0, z1, z2⟩ := (R1.below hbw).at_ hlt
        obtain ⟨g2, rfl, hg2, y0, y1, y2⟩ := (R2.below hbw).at_ hlt2
        have hcase : (xs[k] = ys[k] ∧ xs[k].a = ys[k].a ∧ xs[k].b = ys[k].b ∧ xs[k].c = ys[k].c) ∨ (xs[k] ≠ ys[k] ∧ (¬ xs[k].a = ys[k].a ∨ (xs[k].a = ys[k].a ∧ ¬ xs[k].b = ys[k].b) ∨ (xs[k].a = ys[k].a ∧ xs[k].b = ys[k].b ∧ ¬ xs[k].c = ys[k].c))) := by
          have := @h3_eq xs[k] ys[k]
          by_cases e1 : xs[k].a = ys[k].a <;> by_cases e2 : xs[k].b = ys[k].b <;> by_cases e3 : xs[k].c = ys[k].c <;> simp_all
        rcases hcase with ⟨he, e1, e2, e3⟩ | ⟨hne, e⟩
        · have HE := Lib.hid he
          rw [e1] at z0
          rw [e2] at z1
          rw [e3] at z2
          clear he e1 e2 e3
          go_wp2
          ((first | (with_reducible refine wp_region_calm2 (by kernel_rfl) (by kernel_rfl) ?_) | refine wp_region_calm (by kernel_rfl) (by kernel_rfl) ?_); (repeat (go_big_quiet_step (first | fail))); refine wpQuiet_nil ?_; rintro _ ⟨y, rfl⟩)
          go_wp2
          go_roundw
          case rel => exact ⟨k + 1, by omega, by go_num, Lib.hid (by rw [List.take_succ_eq_append_getElem hlt, List.take_succ_eq_append_getElem hlt2, HA.out, HE.out]), (by repeat (first | exact hb | refine bO ?_ | refine bA ?_ | refine bS ?_ | refine bD ?_ | refine bN ?_))⟩
          case measure => simp [intOf]; omega
        · obtain rfl : v = false := by
            rw [← h.out, decide_eq_false_iff_not]
            intro e
            subst e
            exact hne rfl
          clear hne
          rcases e with e1 | ⟨e1, e2⟩ | ⟨e1, e2, e3⟩
          · go_wp2
            ((first | (with_reducible refine wp_region_calm2 (by kernel_rfl) (by kernel_rfl) ?_) | refine wp_region_calm (by kernel_rfl) (by kernel_rfl) ?_); (repeat (go_big_quiet_step (first | fail))); refine wpQuiet_nil ?_; rintro _ ⟨y, rfl⟩)
            go_wp2
            go_ret
            exact ⟨rfl, (by repeat (first | exact hbw | refine bO ?_ | refine bA ?_ | refine bS ?_ | refine bD ?_ | refine bN ?_))⟩
          · rw [e1] at z0
            clear e1
            go_wp2
            ((first | (with_reducible refine wp_region_calm2 (by kernel_rfl) (by kernel_rfl) ?_) | refine wp_region_calm (by kernel_rfl) (by kernel_rfl) ?_); (repeat (go_big_quiet_step (first | fail))); refine wpQuiet_nil ?_; rintro _ ⟨y, rfl⟩)
            go_wp2
            go_ret
            exact ⟨rfl, (by repeat (first | exact hbw | refine bO ?_ | refine bA ?_ | refine bS ?_ | refine bD ?_ | refine bN ?_))⟩
          · rw [e1] at z0
            rw [e2] at z1
            clear e1 e2
            go_wp2
            ((first | (with_reducible refine wp_region_calm2 (by kernel_rfl) (by kernel_rfl) ?_) | refine wp_region_calm (by kernel_rfl) (by kernel_rfl) ?_); (repeat (go_big_quiet_step (first | fail))); refine wpQuiet_nil ?_; rintro _ ⟨y, rfl⟩)
            go_wp2
            go_ret
            exact ⟨rfl, (by repeat (first | exact hbw | refine bO ?_ | refine bA ?_ | refine bS ?_ | refine bD ?_ | refine bN ?_))⟩
      · obtain rfl : k = xs.length := by omega
        obtain rfl : v = true := by
          rw [← h.out, decide_eq_true_eq]
          have := HA.out
          rwa [List.take_length, HNE.out, List.take_length] at this
        go_wp2
        go_ret
        exact ⟨rfl, hbw⟩
  · obtain rfl : v = false := by
      rw [← h.out, decide_eq_false_iff_not]
      intro e
      subst e
      exact hne rfl
    have hz : ((xs.length : Int) != (ys.length : Int)) = true := by simp; omega
    have hz' : ¬ ((xs.length : Int) = (ys.length : Int)) := by omega
    clear hne
    go_enter Try.func92, Try.ntmps92
    go_wp2
    go_ret
    exact ⟨rfl, (by repeat (first | exact bR | refine bO ?_ | refine bA ?_ | refine bS ?_ | refine bD ?_ | refine bN ?_))⟩
theorem spec_IsVoid_eq {n c : Nat} {A : Option Addr} {w : World} {v : Bool} (h : Hid (decide (n = 0) = v)) :
    Calls Try.prog 77 #[.agg #[.slice A n c]] w fun e w' => e = .returned (.bool v) ∧ Below w.heap.size w w' := by
  cases v with
  | true =>
    obtain rfl : n = 0 := by have := h.out; simpa using this
    go_enter Try.func77, Try.ntmps77
    go_wp2
    go_ret
    exact ⟨rfl, (by repeat (first | exact bR | refine bO ?_ | refine bA ?_ | refine bS ?_ | refine bD ?_ | refine bN ?_))⟩
  | false =>
    have hn : ¬ n = 0 := by have := h.out; simpa using this
    have hz : ((n : Int) == 0) = false := by simp; omega
    go_enter Try.func77, Try.ntmps77
    go_wp2
    go_ret
    exact ⟨rfl, (by repeat (first | exact bR | refine bO ?_ | refine bA ?_ | refine bS ?_ | refine bD ?_ | refine bN ?_))⟩

set_option maxHeartbeats 1000000 in
theorem spec_RegionOk_eq {hs : List H3} {v : Bool} {A : Option Addr} {c : Nat} {w : World} (R : R3 49 w A c hs) (hl : hs.length ≤ 1000000000) (h : Hid (regionOk hs = v)) :
    Calls Try.prog 76 #[.agg #[.slice A hs.length c]] w fun e w' => e = .returned (.bool v) ∧ Below w.heap.size w w' := by
  obtain ⟨⟨out, ok⟩, hf⟩ : ∃ z, fromR hs = z := ⟨_, rfl⟩
  have hv := h.out
  unfold regionOk at hv
  rw [hf] at hv
  have HF := Lib.hid hf
  have hol := fromR_short hf
  have HV := Lib.hid hv
  clear hv hf h
  go_enter Try.func76, Try.ntmps76
  go_wp2_with fail
  refine (spec_RegionFrom_eq (R3.alloc R _) hl HF).mono ?_
  rintro e w1 ⟨A1, c1, rfl, R1, hb1⟩
  have hbw : Below w.heap.size w w1 := ((Below.refl _ _).alloc (Nat.le_refl _) _).trans (hb1.mono (by simp))
  have HX := Lib.hid ((hb1.block w.heap.size (by simp)).trans (heap_alloc_new _ _))
  have x2 := cell_blk (j := 0) (v := .slice A hs.length c) HX.out rfl
  have l2 := (Array.getElem?_eq_some_iff.1 HX.out).1
  have RH := R3.below R hbw
  have R1' := R1.r3
  have hbws := hbw.size
  by_cases h0 : hs.length = 0
  · obtain rfl : v = true := by rw [← HV.out, List.length_eq_zero_iff.1 h0]; rfl
    have hz : ((hs.length : Int) == 0) = true := by rw [h0]; rfl
    clear h0
    go_wp2
    go_ret
    exact ⟨rfl, (by repeat (first | exact hbw | refine bO ?_ | refine bA ?_ | refine bS ?_ | refine bD ?_ | refine bN ?_))⟩
  · have hz : ((hs.length : Int) == 0) = false := beq_eq_false_iff_ne.2 (by omega)
    have hz' : ¬ ((hs.length : Int) = 0) := by omega
    have h1 : hs ≠ [] := fun e => h0 (by rw [e]; rfl)
    cases ok with
    | false =>
      obtain rfl : v = false := by rw [← HV.out]; simp [h1]
      go_wp2
      go_ret
      exact ⟨rfl, (by repeat (first | exact hbw | refine bO ?_ | refine bA ?_ | refine bS ?_ | refine bD ?_ | refine bN ?_))⟩
    | true =>
      have HS := Lib.hid (show decide (hs = out) = v by rw [← HV.out]; simp [h1])
      go_wp2_with (go_at_call 92; refine (calls_ov (spec_SameRegion_eq (R3.alloc RH _) (R3.alloc R1' _) hl (by omega) HS)).mono ?_; rintro e w' ⟨rfl, x, rfl⟩)
      go_ret
      exact ⟨rfl, (by repeat (first | exact hbw | refine bO ?_ | refine bA ?_ | refine bS ?_ | refine bD ?_ | refine bN ?_))⟩
end Go.Proofs.Ytgdleimdenbnlaa
