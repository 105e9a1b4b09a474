/- Several texts in one: Rs, Lq. Each says its own conditions. -/
import Derived.Test.YtabmfaamadbefaaGreatMk
import Derived.Test.YtabmfaamadbefaaGreatRo
import Derived.Test.YtabmfaamadbefaaGreatFr
import Derived.OwnWalk
import Derived.Deep.Slices
import Derived.Deep.Fields
import Derived.ChangeSame
/- Contracts of the reference's l05Fit, RegionFrom, SameRegion, IsVoid and RegionOk. No condition but that lengths are ints. -/
set_option linter.unusedSimpArgs false
set_option linter.unusedVariables false
set_option linter.unusedSectionVars false
namespace Go.Proofs.YtabmfaamadbefaaGreat
open Go.RowKit
theorem meetR_makeR {hs : List H3} (G : ∀ g ∈ hs, HOk g) : meetR hs = if 40 < (makeR hs).length then ([], false) else (makeR hs, true) := by
  unfold meetR
  rw [make_eq (good_sorted G)]
  rfl
theorem heap_new_at {w : World} {o : Obj} {n : Nat} {r : Option Obj} (hn : n = w.heap.size) (hr : r = some o) : (w.alloc o).heap[n]? = r := by subst hn hr; exact heap_alloc_new _ _
theorem heap_old_at {w : World} {o : Obj} {n : Nat} (hn : n < w.heap.size) : (w.alloc o).heap[n]? = w.heap[n]? := ((Below.refl w.heap.size w).alloc (Nat.le_refl _) o).block n hn
theorem fromR_short {hs out : List H3} {ok : Bool} (h : fromR hs = (out, ok)) : out.length ≤ 40 := by
  unfold fromR meetR at h
  split at h
  · split at h
    · simp at h; rw [h.1]; simp
    · simp at h; rw [← h.1]; omega
  · simp at h; rw [h.1]; simp

set_option maxHeartbeats 1000000 in
theorem l05Fit_eq {hs out : List H3} {ok : Bool} {A : Option Addr} {c : Nat} {w : World} (G : ∀ g ∈ hs, HOk g) (R : R3 44 w A c hs) (hl : hs.length ≤ 300) (hr : Hid (meetR hs = (out, ok))) :
    Calls Tryz.prog 150 #[.slice A hs.length c] w (RegPost w out ok) := by
  obtain ⟨m, hm⟩ : ∃ m, makeR hs = m := ⟨_, rfl⟩
  have h' := hr.out
  rw [meetR_makeR G, hm] at h'
  have HM := Lib.hid hm
  clear hm hr
  go_enter Tryz.func150, Tryz.ntmps150
  go_wp2_with fail
  refine (l05Make_eq G (R3.alloc R _) hl HM).mono ?_
  rintro e w1 ⟨A1, c1, rfl, R1, hb1⟩
  have hbw : Below w.heap.size w w1 := ((Below.refl _ _).alloc (Nat.le_refl _) _).trans (hb1.mono (by simp))
  have HX := Lib.hid ((hb1.block w.heap.size (by simp)).trans (heap_alloc_new _ _))
  have x2 := cell_blk (j := 0) (v := .slice none 0 0) HX.out rfl
  have f2 := frozen_blk (j := 0) HX.out
  have l2 := (Array.getElem?_eq_some_iff.1 HX.out).1
  have HR1 := R1.weak (B' := w.heap.size) (by simp)
  clear R1 hb1
  by_cases h40 : 40 < m.length
  · rw [if_pos h40] at h'
    simp at h'
    obtain ⟨rfl, rfl⟩ := h'
    go_wp2
    refine bodyPost_ret (v := .tuple #[.agg #[.slice none 0 0], .bool false]) (by simp [results, Tryz.results150, go_sem, x2, l2]) rfl ⟨none, 0, rfl, RB.nil _ _ _, ?_⟩
    exact (by repeat (first | exact hbw | refine bO ?_ | refine bA ?_ | refine bS ?_ | refine bD ?_ | refine bN ?_))
  · rw [if_neg h40] at h'
    simp at h'
    obtain ⟨rfl, rfl⟩ := h'
    go_wp2
    refine bodyPost_ret (v := .tuple #[.agg #[.slice A1 m.length c1], .bool true]) (by simp [results, Tryz.results150, go_sem, x2, l2]) rfl ⟨A1, c1, rfl, ?_, ?_⟩
    · exact RB.below (HR1.set_box HX.out (by decide)) (by repeat (first | exact bR | refine bO ?_ | refine bA ?_ | refine bS ?_ | refine bD ?_ | refine bN ?_))
    · exact (by repeat (first | exact hbw | refine bO ?_ | refine bA ?_ | refine bS ?_ | refine bD ?_ | refine bN ?_))

set_option maxHeartbeats 1000000 in
theorem spec_RegionFrom_eq {hs out : List H3} {ok : Bool} {A : Option Addr} {c : Nat} {w : World} (R : R3 44 w A c hs) (hl : hs.length ≤ 1000000000) (h : Hid (fromR hs = (out, ok))) :
    Calls Tryz.prog 137 #[.slice A hs.length c] w (RegPost w out ok) := by
  by_cases h40 : 40 < hs.length
  · have h' := h.out
    unfold fromR at h'
    rw [if_neg (by omega)] at h'
    simp at h'
    obtain ⟨rfl, rfl⟩ := h'
    go_enter Tryz.func137, Tryz.ntmps137
    go_wp2
    refine bodyPost_ret (v := .tuple #[.agg #[.slice none 0 0], .bool false]) (by simp [results, Tryz.results137, go_sem]) rfl ⟨none, 0, rfl, RB.nil _ _ _, (by repeat (first | exact bR | refine bO ?_ | refine bA ?_ | refine bS ?_ | refine bD ?_ | refine bN ?_))⟩
  · go_enter Tryz.func137, Tryz.ntmps137
    go_wp2
    go_loopw [12] (fun i wr => ∃ k : Nat, k ≤ hs.length ∧ i = .int .i64 k ∧ Hid ((hs.take k).all halfOk = true) ∧ Below (w.heap.size + 1) (w.alloc (.cells #[.slice none 0 0] 26)) wr) (fun i _ => hs.length - (intOf i).toNat)
    case atStart => exact ⟨0, Nat.zero_le _, rfl, Lib.hid rfl, Below.refl _ _⟩
    case round =>
      obtain ⟨k, hk, rfl, HA, hb⟩ := hrel
      have hbw : Below w.heap.size w wr := ((Below.refl _ _).alloc (Nat.le_refl _) _).trans (hb.mono (by omega))
      have hbs := hb.size
      have hbs' := hbw.size
      have HX := Lib.hid ((hb.block w.heap.size (by omega)).trans (heap_alloc_new _ _))
      have x2 := cell_blk (j := 0) (v := .slice none 0 0) HX.out rfl
      have f2 := frozen_blk (j := 0) HX.out
      have l2 := (Array.getElem?_eq_some_iff.1 HX.out).1
      by_cases hlt : k < hs.length
      · obtain ⟨g0, rfl, hg0, z0, z1, z2⟩ := (R.below hbw).at_ hlt
        have HT := Lib.hid (all_take_succ halfOk hs k hlt)
        obtain ⟨b, hb0⟩ : ∃ b, halfOk hs[k] = b := ⟨_, rfl⟩
        have HB := Lib.hid hb0
        clear hb0
        cases b with
        | true =>
          go_wp2_with ((go_at_call 115; (first | (with_reducible refine (calls_ov2 (spec_HalfOk_eq HB.out)).mono ?_) | refine (calls_ov (spec_HalfOk_eq HB.out)).mono ?_); rintro e w' ⟨rfl, x, rfl⟩))
          go_roundw
          case rel => exact ⟨k + 1, by omega, by go_num, Lib.hid (by rw [HT.out, HA.out, HB.out]; rfl), (by repeat (first | exact hb | refine bO ?_ | refine bA ?_ | refine bS ?_ | refine bD ?_ | refine bN ?_))⟩
          case measure => simp [intOf]; omega
        | false =>
          have hall : hs.all halfOk = false := by
            rw [List.all_eq_false]
            exact ⟨hs[k], List.getElem_mem hlt, by rw [HB.out]; simp⟩
          have h' := h.out
          unfold fromR at h'
          rw [if_neg (by simp [hall])] at h'
          simp at h'
          obtain ⟨rfl, rfl⟩ := h'
          clear hall
          go_wp2_with ((go_at_call 115; (first | (with_reducible refine (calls_ov2 (spec_HalfOk_eq HB.out)).mono ?_) | refine (calls_ov (spec_HalfOk_eq HB.out)).mono ?_); rintro e w' ⟨rfl, x, rfl⟩))
          refine bodyPost_ret (v := .tuple #[.agg #[.slice none 0 0], .bool false]) (by simp [results, Tryz.results137, go_sem, x2, l2]) rfl ⟨none, 0, rfl, RB.nil _ _ _, ?_⟩
          exact (by repeat (first | exact hbw | refine bO ?_ | refine bA ?_ | refine bS ?_ | refine bD ?_ | refine bN ?_))
      · obtain rfl : k = hs.length := by omega
        have hall := HA.out
        rw [List.take_length] at hall
        have h' := h.out
        unfold fromR at h'
        rw [if_pos ⟨by omega, hall⟩] at h'
        have HM := Lib.hid h'
        have G := allOk hall
        clear hall h'
        go_wp2_with fail
        refine (l05Fit_eq G (R.below hbw) (by omega) HM).mono ?_
        rintro e w1 ⟨A1, c1, rfl, R1, hb1⟩
        have hbw1 : Below w.heap.size w w1 := hbw.trans (hb1.mono hbs')
        have HY := Lib.hid ((hb1.block _ l2).trans HX.out)
        have y2 := cell_blk (j := 0) (v := .slice none 0 0) HY.out rfl
        have g2 := frozen_blk (j := 0) HY.out
        have m2 := (Array.getElem?_eq_some_iff.1 HY.out).1
        have HR1 := R1.weak (B' := w.heap.size) hbs'
        clear R1 hb1
        go_wp2
        refine bodyPost_ret (v := .tuple #[.agg #[.slice A1 out.length c1], .bool ok]) (by simp [results, Tryz.results137, go_sem, y2, m2]) rfl ⟨A1, c1, rfl, HR1.set_box HY.out (by decide), hbw1.setCell (show w.heap.size ≤ (⟨w.heap.size, 0, none⟩ : Addr).block from Nat.le_refl _) _⟩

set_option maxHeartbeats 1000000 in
theorem spec_SameRegion_eq {xs ys : List H3} {A1 A2 : Option Addr} {c1 c2 : Nat} {w : World} {v : Bool} (R1 : R3 44 w A1 c1 xs) (R2 : R3 44 w A2 c2 ys) (hx : xs.length ≤ 1000000000) (hy : ys.length ≤ 1000000000) (h : Hid (decide (xs = ys) = v)) :
    Calls Tryz.prog 138 #[.agg #[.slice A1 xs.length c1], .agg #[.slice A2 ys.length c2]] w fun e w' => e = .returned (.bool v) ∧ Below w.heap.size w w' := by
  by_cases hne : xs.length = ys.length
  · have hz : ((xs.length : Int) != (ys.length : Int)) = false := by simp; omega
    have HNE := Lib.hid hne
    clear hne
    go_enter Tryz.func138, Tryz.ntmps138
    go_wp2
    go_loopw [17] (fun i wr => ∃ k : Nat, k ≤ xs.length ∧ i = .int .i64 k ∧ Hid (xs.take k = ys.take k) ∧ Below (w.heap.size + 1 + 1) ((w.alloc (.cells #[.slice A1 xs.length c1] 26)).alloc (.cells #[.slice A2 ys.length c2] 26)) wr) (fun i _ => xs.length - (intOf i).toNat)
    case atStart => exact ⟨0, Nat.zero_le _, rfl, Lib.hid rfl, Below.refl _ _⟩
    case round =>
      obtain ⟨k, hk, rfl, HA, hb⟩ := hrel
      have hbw : Below w.heap.size w wr := (((Below.refl _ _).alloc (Nat.le_refl _) _).alloc (by simp) _).trans (hb.mono (by omega))
      have hbs := hb.size
      have hbs' := hbw.size
      have HX := Lib.hid ((hb.block (w.heap.size + 1) (by omega)).trans (heap_new_at (r := some (.cells #[.slice A2 ys.length c2] 26 (0, 0))) (by simp) rfl))
      have x2 := cell_blk (j := 0) (v := .slice A2 ys.length c2) HX.out rfl
      have l2 := (Array.getElem?_eq_some_iff.1 HX.out).1
      clear HX
      generalize w.heap.size + 1 = nq at x2 l2 hb ⊢
      by_cases hlt : k < xs.length
      · have hlt2 : k < ys.length := by have := HNE.out; omega
        obtain ⟨g1, rfl, hg1, z0, z1, z2⟩ := (R1.below hbw).at_ hlt
        obtain ⟨g2, rfl, hg2, y0, y1, y2⟩ := (R2.below hbw).at_ hlt2
        have hcase : (xs[k] = ys[k] ∧ xs[k].a = ys[k].a ∧ xs[k].b = ys[k].b ∧ xs[k].c = ys[k].c) ∨ (xs[k] ≠ ys[k] ∧ (¬ xs[k].a = ys[k].a ∨ (xs[k].a = ys[k].a ∧ ¬ xs[k].b = ys[k].b) ∨ (xs[k].a = ys[k].a ∧ xs[k].b = ys[k].b ∧ ¬ xs[k].c = ys[k].c))) := by
          have := @h3_eq xs[k] ys[k]
          by_cases e1 : xs[k].a = ys[k].a <;> by_cases e2 : xs[k].b = ys[k].b <;> by_cases e3 : xs[k].c = ys[k].c <;> simp_all
        rcases hcase with ⟨he, e1, e2, e3⟩ | ⟨hne, e⟩
        · have HE := Lib.hid he
          rw [e1] at z0
          rw [e2] at z1
          rw [e3] at z2
          clear he e1 e2 e3
          go_wp2
          ((first | (with_reducible refine wp_region_calm2 (by kernel_rfl) (by kernel_rfl) ?_) | refine wp_region_calm (by kernel_rfl) (by kernel_rfl) ?_); (repeat (go_big_quiet_step (first | fail))); refine wpQuiet_nil ?_; rintro _ ⟨y, rfl⟩)
          go_wp2
          go_roundw
          case rel => exact ⟨k + 1, by omega, by go_num, Lib.hid (by rw [List.take_succ_eq_append_getElem hlt, List.take_succ_eq_append_getElem hlt2, HA.out, HE.out]), (by repeat (first | exact hb | refine bO ?_ | refine bA ?_ | refine bS ?_ | refine bD ?_ | refine bN ?_))⟩
          case measure => simp [intOf]; omega
        · obtain rfl : v = false := by
            rw [← h.out, decide_eq_false_iff_not]
            intro e
            subst e
            exact hne rfl
          clear hne
          rcases e with e1 | ⟨e1, e2⟩ | ⟨e1, e2, e3⟩
          · go_wp2
            ((first | (with_reducible refine wp_region_calm2 (by kernel_rfl) (by kernel_rfl) ?_) | refine wp_region_calm (by kernel_rfl) (by kernel_rfl) ?_); (repeat (go_big_quiet_step (first | fail))); refine wpQuiet_nil ?_; rintro _ ⟨y, rfl⟩)
            go_wp2
            go_ret
            exact ⟨rfl, (by repeat (first | exact hbw | refine bO ?_ | refine bA ?_ | refine bS ?_ | refine bD ?_ | refine bN ?_))⟩
          · rw [e1] at z0
            clear e1
            go_wp2
            ((first | (with_reducible refine wp_region_calm2 (by kernel_rfl) (by kernel_rfl) ?_) | refine wp_region_calm (by kernel_rfl) (by kernel_rfl) ?_); (repeat (go_big_quiet_step (first | fail))); refine wpQuiet_nil ?_; rintro _ ⟨y, rfl⟩)
            go_wp2
            go_ret
            exact ⟨rfl, (by repeat (first | exact hbw | refine bO ?_ | refine bA ?_ | refine bS ?_ | refine bD ?_ | refine bN ?_))⟩
          · rw [e1] at z0
            rw [e2] at z1
            clear e1 e2
            go_wp2
            ((first | (with_reducible refine wp_region_calm2 (by kernel_rfl) (by kernel_rfl) ?_) | refine wp_region_calm (by kernel_rfl) (by kernel_rfl) ?_); (repeat (go_big_quiet_step (first | fail))); refine wpQuiet_nil ?_; rintro _ ⟨y, rfl⟩)
            go_wp2
            go_ret
            exact ⟨rfl, (by repeat (first | exact hbw | refine bO ?_ | refine bA ?_ | refine bS ?_ | refine bD ?_ | refine bN ?_))⟩
      · obtain rfl : k = xs.length := by omega
        obtain rfl : v = true := by
          rw [← h.out, decide_eq_true_eq]
          have := HA.out
          rwa [List.take_length, HNE.out, List.take_length] at this
        go_wp2
        go_ret
        exact ⟨rfl, hbw⟩
  · obtain rfl : v = false := by
      rw [← h.out, decide_eq_false_iff_not]
      intro e
      subst e
      exact hne rfl
    have hz : ((xs.length : Int) != (ys.length : Int)) = true := by simp; omega
    have hz' : ¬ ((xs.length : Int) = (ys.length : Int)) := by omega
    clear hne
    go_enter Tryz.func138, Tryz.ntmps138
    go_wp2
    go_ret
    exact ⟨rfl, (by repeat (first | exact bR | refine bO ?_ | refine bA ?_ | refine bS ?_ | refine bD ?_ | refine bN ?_))⟩
theorem spec_IsVoid_eq {n c : Nat} {A : Option Addr} {w : World} {v : Bool} (h : Hid (decide (n = 0) = v)) :
    Calls Tryz.prog 117 #[.agg #[.slice A n c]] w fun e w' => e = .returned (.bool v) ∧ Below w.heap.size w w' := by
  cases v with
  | true =>
    obtain rfl : n = 0 := by have := h.out; simpa using this
    go_enter Tryz.func117, Tryz.ntmps117
    go_wp2
    go_ret
    exact ⟨rfl, (by repeat (first | exact bR | refine bO ?_ | refine bA ?_ | refine bS ?_ | refine bD ?_ | refine bN ?_))⟩
  | false =>
    have hn : ¬ n = 0 := by have := h.out; simpa using this
    have hz : ((n : Int) == 0) = false := by simp; omega
    go_enter Tryz.func117, Tryz.ntmps117
    go_wp2
    go_ret
    exact ⟨rfl, (by repeat (first | exact bR | refine bO ?_ | refine bA ?_ | refine bS ?_ | refine bD ?_ | refine bN ?_))⟩

set_option maxHeartbeats 1000000 in
theorem spec_RegionOk_eq {hs : List H3} {v : Bool} {A : Option Addr} {c : Nat} {w : World} (R : R3 44 w A c hs) (hl : hs.length ≤ 1000000000) (h : Hid (regionOk hs = v)) :
    Calls Tryz.prog 116 #[.agg #[.slice A hs.length c]] w fun e w' => e = .returned (.bool v) ∧ Below w.heap.size w w' := by
  obtain ⟨⟨out, ok⟩, hf⟩ : ∃ z, fromR hs = z := ⟨_, rfl⟩
  have hv := h.out
  unfold regionOk at hv
  rw [hf] at hv
  have HF := Lib.hid hf
  have hol := fromR_short hf
  have HV := Lib.hid hv
  clear hv hf h
  go_enter Tryz.func116, Tryz.ntmps116
  go_wp2_with fail
  refine (spec_RegionFrom_eq (R3.alloc R _) hl HF).mono ?_
  rintro e w1 ⟨A1, c1, rfl, R1, hb1⟩
  have hbw : Below w.heap.size w w1 := ((Below.refl _ _).alloc (Nat.le_refl _) _).trans (hb1.mono (by simp))
  have HX := Lib.hid ((hb1.block w.heap.size (by simp)).trans (heap_alloc_new _ _))
  have x2 := cell_blk (j := 0) (v := .slice A hs.length c) HX.out rfl
  have l2 := (Array.getElem?_eq_some_iff.1 HX.out).1
  have RH := R3.below R hbw
  have R1' := R1.r3
  have hbws := hbw.size
  by_cases h0 : hs.length = 0
  · obtain rfl : v = true := by rw [← HV.out, List.length_eq_zero_iff.1 h0]; rfl
    have hz : ((hs.length : Int) == 0) = true := by rw [h0]; rfl
    clear h0
    go_wp2
    go_ret
    exact ⟨rfl, (by repeat (first | exact hbw | refine bO ?_ | refine bA ?_ | refine bS ?_ | refine bD ?_ | refine bN ?_))⟩
  · have hz : ((hs.length : Int) == 0) = false := beq_eq_false_iff_ne.2 (by omega)
    have hz' : ¬ ((hs.length : Int) = 0) := by omega
    have h1 : hs ≠ [] := fun e => h0 (by rw [e]; rfl)
    cases ok with
    | false =>
      obtain rfl : v = false := by rw [← HV.out]; simp [h1]
      go_wp2
      go_ret
      exact ⟨rfl, (by repeat (first | exact hbw | refine bO ?_ | refine bA ?_ | refine bS ?_ | refine bD ?_ | refine bN ?_))⟩
    | true =>
      have HS := Lib.hid (show decide (hs = out) = v by rw [← HV.out]; simp [h1])
      go_wp2_with (go_at_call 138; refine (calls_ov (spec_SameRegion_eq (R3.alloc RH _) (R3.alloc R1' _) hl (by omega) HS)).mono ?_; rintro e w' ⟨rfl, x, rfl⟩)
      go_ret
      exact ⟨rfl, (by repeat (first | exact hbw | refine bO ?_ | refine bA ?_ | refine bS ?_ | refine bD ?_ | refine bN ?_))⟩
end Go.Proofs.YtabmfaamadbefaaGreat
/- What the laws on regions use: the argument opened, the copies, the comparisons, the marks. Condition: rows of at most 2^20 half planes where said. Contracts of the laws' helpers on regions: szRegion, toRegion, eqRegion, markRegion, heldRegion. Condition: rows of at most 2^20 half planes where said. Contracts of markRegion and heldRegion. Condition: rows of at most 2^20 half planes. Region operations whose values are rows that the region's calls make; rows apart from one another. No condition. -/
set_option linter.unusedSimpArgs false
set_option linter.unusedVariables false
set_option linter.unusedSectionVars false
namespace Go.Proofs.YtabmfaamadbefaaGreat
open Go.ChangeShapes Go.WideShapes Go.ChangeAt Go.RowKit Go.Joins Go.Deep
/-- A row of half planes that came in: any address. -/
def RL (w : World) (A : Option Addr) (xs : List H3) : Prop := ∀ k (hk : k < xs.length), ∃ g o, A = some ⟨g, o, none⟩ ∧ g < w.heap.size ∧
  w.cell? ⟨g, o + k * 3, none⟩ = some (.int .i64 xs[k].a) ∧ w.cell? ⟨g, o + k * 3 + 1, none⟩ = some (.int .i64 xs[k].b) ∧ w.cell? ⟨g, o + k * 3 + 2, none⟩ = some (.int .i64 xs[k].c)
theorem RL.below {w w' : World} {A : Option Addr} {xs : List H3} (h : RL w A xs) (hb : Below w.heap.size w w') : RL w' A xs := fun k hk => by
  obtain ⟨g, o, h1, h2, h3, h4, h5⟩ := h k hk
  have := hb.size
  exact ⟨g, o, h1, by omega, (hb.cell (p := ⟨g, o + k * 3, none⟩) h2).trans h3, (hb.cell (p := ⟨g, o + k * 3 + 1, none⟩) h2).trans h4, (hb.cell (p := ⟨g, o + k * 3 + 2, none⟩) h2).trans h5⟩
theorem cell?_addr {w : World} {a : Addr} {v : Value} (h : w.cell? a = some v) : a.spot = none ∧ a.block < w.heap.size := by
  unfold World.cell? at h
  split at h
  · rename_i c t f hb
    refine ⟨?_, (Array.getElem?_eq_some_iff.1 hb).1⟩
    cases hs : a.spot with
    | none => rfl
    | some x => rw [hs] at h; simp at h
  · cases h
theorem list_of {α : Type} {P : Nat → α → Prop} : ∀ (n : Nat), (∀ i, i < n → ∃ x, P i x) → ∃ l : List α, l.length = n ∧ ∀ i (h : i < l.length), P i l[i]
  | 0, _ => ⟨[], rfl, fun i h => by simp at h⟩
  | n + 1, h => by
    obtain ⟨l, hl, hp⟩ := list_of n fun i hi => h i (by omega)
    obtain ⟨x, hx⟩ := h n (by omega)
    refine ⟨l ++ [x], by simp [hl], fun i hi => ?_⟩
    by_cases hin : i < l.length
    · rw [List.getElem_append_left hin]; exact hp i hin
    · have : i = l.length := by simp at hi; omega
      subst this
      rw [List.getElem_append_right (Nat.le_refl _)]
      simp only [Nat.sub_self, List.getElem_cons_zero]
      rw [hl]; exact hx

section
variable {H : Type} {enc : TypeId × Value → H} {w : World} {base : Nat} {spare : Nat → Bool} {held : Bool} {n : Nat}
end
end Go.Proofs.YtabmfaamadbefaaGreat
set_option linter.unusedSimpArgs false
set_option linter.unusedVariables false
set_option linter.unusedSectionVars false
namespace Go.Proofs.YtabmfaamadbefaaGreat
open Go.ChangeShapes Go.WideShapes Go.ChangeAt Go.RowKit Go.Joins
def szL (n : Nat) (left : Int) : Int := if left - n < 0 then -1 else left - n
theorem addr_block {g g' : Nat} (e : some (⟨g, 0, none⟩ : Addr) = some ⟨g', 0, none⟩) : g' = g := by injection e with e; injection e with e; exact e.symm
theorem made3 (n : Nat) : (madeCells (Value.agg #[.int .i64 0, .int .i64 0, .int .i64 0]).cells (n * 3)).toList = cells3 (List.replicate n ⟨0, 0, 0⟩) := by
  apply List.ext_getElem?
  intro j
  by_cases hj : j < n * 3
  · have h1 : (madeCells (Value.agg #[.int .i64 0, .int .i64 0, .int .i64 0]).cells (n * 3)).toList[j]? = some (.int .i64 0) := by
      have h3 : j % 3 < 3 := Nat.mod_lt _ (by decide)
      simp [madeCells, Value.cells, hj]
      match j % 3, h3 with
      | 0, _ => rfl
      | 1, _ => rfl
      | 2, _ => rfl
    rw [h1]
    have hk : j / 3 < (List.replicate n (⟨0, 0, 0⟩ : H3)).length := by simp; omega
    obtain ⟨c0, c1, c2⟩ := cells3_get (List.replicate n ⟨0, 0, 0⟩) (j / 3) hk
    simp only [List.getElem_replicate] at c0 c1 c2
    have : j = j / 3 * 3 ∨ j = j / 3 * 3 + 1 ∨ j = j / 3 * 3 + 2 := by omega
    rcases this with e | e | e
    · rw [e, c0]
    · rw [e, c1]
    · rw [e, c2]
  · rw [List.getElem?_eq_none (by simp [size_madeCells]; omega), List.getElem?_eq_none (by rw [cells3_length]; simp; omega)]

theorem fill_set {hs : List H3} {k : Nat} (hk : k < hs.length) : (hs.take k ++ List.replicate (hs.length - k) (⟨0, 0, 0⟩ : H3)).set k hs[k] = hs.take (k + 1) ++ List.replicate (hs.length - (k + 1)) (⟨0, 0, 0⟩ : H3) := by
  have hl : (hs.take k).length = k := by simp; omega
  rw [List.set_append_right (h := by omega), hl, Nat.sub_self, List.take_succ_eq_append_getElem hk, List.append_assoc]
  obtain ⟨m, hm⟩ : ∃ m, hs.length - k = m + 1 := ⟨hs.length - k - 1, by omega⟩
  rw [hm, List.replicate_succ, List.set_cons_zero, show hs.length - (k + 1) = m by omega]
  rfl

/-- The marks: numbers from k on. -/
def marks (k : Int) : Nat → List H3
  | 0 => []
  | n + 1 => marks k n ++ [⟨k + n * 3, k + n * 3 + 1, k + n * 3 + 2⟩]
theorem marks_length (k : Int) : ∀ n, (marks k n).length = n
  | 0 => rfl
  | n + 1 => by simp [marks, marks_length k n]
theorem marks_get (k : Int) : ∀ n i (h : i < (marks k n).length), (marks k n)[i] = ⟨k + i * 3, k + i * 3 + 1, k + i * 3 + 2⟩
  | 0, i, h => by simp [marks] at h
  | n + 1, i, h => by
    by_cases hi : i < (marks k n).length
    · simp only [marks]
      rw [List.getElem_append_left hi]; exact marks_get k n i hi
    · have hl := marks_length k n
      have : i = n := by simp [marks] at h; omega
      subst this
      simp only [marks]
      rw [List.getElem_append_right (by omega)]
      simp [hl]
theorem mark_set {xs : List H3} {k : Nat} {b : Int} (hk : k < xs.length) : (marks b k ++ xs.drop k).set k ⟨b + k * 3, b + k * 3 + 1, b + k * 3 + 2⟩ = marks b (k + 1) ++ xs.drop (k + 1) := by
  have hl := marks_length b k
  rw [List.set_append_right (h := by omega), hl, Nat.sub_self, List.drop_eq_getElem_cons hk, List.set_cons_zero]
  simp [marks]
end Go.Proofs.YtabmfaamadbefaaGreat
set_option linter.unusedSimpArgs false
set_option linter.unusedVariables false
set_option linter.unusedSectionVars false
namespace Go.Proofs.YtabmfaamadbefaaGreat
open Go.ChangeShapes Go.WideShapes Go.ChangeAt Go.RowKit Go.Joins
theorem grownBy_set {w wr : World} {g i : Nat} {v : Value} (h : w.grownBy wr (some g)) : w.grownBy (wr.setCell ⟨g, i, none⟩ v) (some g) :=
  ⟨h.os, h.tape, h.output, by simpa using h.size, fun k hk hne => (heap_setCell_other _ _ _ _ (fun e => hne (by rw [e]))).trans (h.block k hk hne)⟩
theorem grownBy_ov {w wr : World} {o : Option Nat} (x : More) (h : w.grownBy wr o) : w.grownBy (ov wr x) o :=
  ⟨h.os, h.tape, h.output, Nat.le_trans h.size (by rw [ov_size]; omega), fun k hk hne => (ov_block _ x (Nat.lt_of_lt_of_le hk h.size)).trans (h.block k hk hne)⟩
theorem grownBy_of_below {w wr : World} {o : Option Nat} (h : Below w.heap.size w wr) : w.grownBy wr o := ⟨h.os, h.tape, h.output, h.size, fun k hk _ => h.block k hk⟩

end Go.Proofs.YtabmfaamadbefaaGreat
set_option linter.unusedSimpArgs false
set_option linter.unusedVariables false
set_option linter.unusedSectionVars false
namespace Go.Proofs.YtabmfaamadbefaaGreat
open Go.ChangeShapes Go.WideShapes Go.ChangeAt Go.RowKit Go.Joins
section
variable {P : Program} {ops : Array Oper} {Q : Exit → Act → World → Prop} {w0 w w' : World} {Rs : List RD} {vs : Nat → Value} {i : Nat} {a a' : Act} {o : Oper} {r : List Oper} {dst : Option Tmp}
theorem needOf_at {n : List Nat} {d : RD} (hr : Rs[i]? = some d) (hn : d.need = n) : needOf Rs i = n := by unfold needOf; rw [hr]; exact hn
/-- An operation with one value, where earlier ones met their relations. -/
theorem wpRel_purn {n : List Nat} {c : Value} {dst : Option Tmp} (hr : Rs[i]? = some (.pur n c)) (hd : o.dst = dst) (h1 : ∀ x, (∀ j ∈ n, holds w0 Rs vs j (ov w0 x)) → wpList P ops (relEnd Rs vs w0 i dst a (ov w0 x)) [o] a (ov w0 x)) (h2 : wpRel P ops Q w0 Rs vs (i + 1) r (a.put dst c)) : wpRel P ops Q w0 Rs vs i (o :: r) a := by
  subst hd
  have hv : vv Rs vs i = c := by unfold vv; rw [hr]
  subst hv
  refine ⟨fun w' ⟨x, hx⟩ hh => ?_, h2⟩
  subst hx
  rw [needOf_at hr rfl] at hh
  exact h1 x hh
theorem wpRelE_nilB0 (h : ∀ w', Below w0.heap.size w0 w' → (∀ j, holds w0 Rs vs j w') → Q .normal a w') : wpRel P ops Q w0 Rs vs i [] a :=
  fun w' ⟨x, hx⟩ hh => h w' (by subst hx; exact below_ov _ _ (Below.refl _ _) (Nat.le_refl _)) hh
/-- An operation that leaves a value of its own making, from such values. -/
theorem wpRel_own {n : List Nat} {k : Nat} {dst : Option Tmp} {G : World → Value → World → Prop} (hr : Rs[i]? = some (.rel n [k] false (IsOw G))) (hki : k = i) (hd : o.dst = dst) (h1 : ∀ x, (∀ j ∈ n, holds w0 Rs vs j (ov w0 x)) → wpList P ops (relEnd Rs vs w0 i dst a (ov w0 x)) [o] a (ov w0 x)) (h2 : wpRel P ops Q w0 Rs vs (i + 1) r (a.put dst (vs k))) : wpRel P ops Q w0 Rs vs i (o :: r) a := by
  subst hki hd
  refine wpRel_cons (fun w' hw hh => ?_) ?_
  · obtain ⟨x, rfl⟩ := hw
    rw [needOf_at hr rfl] at hh
    exact h1 x hh
  · rw [vv_rel hr]; exact h2
end
def GReg (xs : List H3) (w0 : World) (v : Value) (w : World) : Prop := ∃ A c, v = .agg #[.slice A xs.length c] ∧ RB w0.heap.size 44 w A c xs
def GTup (xs : List H3) (ok : Bool) (w0 : World) (v : Value) (w : World) : Prop := ∃ A c, v = .tuple #[.agg #[.slice A xs.length c], .bool ok] ∧ RB w0.heap.size 44 w A c xs
theorem RB.set_row {B b : Nat} {E T : TypeId} {w : World} {A : Option Addr} {c : Nat} {xs : List H3} {cur arr : Array Value} {fr : Nat × Nat} (h : RB B E w A c xs) (hb : w.heap[b]? = some (.cells cur T fr)) (hT : T ≠ E) : RB B E (w.setRow b arr) A c xs := by
  refine ⟨h.1, ?_⟩
  rcases h.2 with e | ⟨g, cap, cu, e1, hg, hh, hr⟩
  · exact .inl e
  · refine .inr ⟨g, cap, cu, e1, hg, ?_, hr⟩
    rw [setRow_other]
    · exact hh
    · rintro rfl
      rw [hh] at hb
      injection hb with hb; injection hb with _ hb; exact hT hb.symm
theorem owned_reg (xs : List H3) : Owned 26 (GReg xs) :=
  ⟨fun w0 v w x ⟨A, c, e, R⟩ => ⟨A, c, e, R.below (below_ov _ _ (Below.refl _ _) (Nat.le_refl _))⟩, fun w0 v w b cur arr hb hs ⟨A, c, e, R⟩ => ⟨A, c, e, R.set_row hb (by decide)⟩⟩
theorem owned_tup (xs : List H3) (ok : Bool) : Owned 26 (GTup xs ok) :=
  ⟨fun w0 v w x ⟨A, c, e, R⟩ => ⟨A, c, e, R.below (below_ov _ _ (Below.refl _ _) (Nat.le_refl _))⟩, fun w0 v w b cur arr hb hs ⟨A, c, e, R⟩ => ⟨A, c, e, R.set_row hb (by decide)⟩⟩
theorem reg_cells (A : Option Addr) (n c : Nat) : (Value.agg #[.slice A n c]).cells.size = 1 ∧ ∀ x ∈ (Value.agg #[.slice A n c]).cells.toList, x.oneCell' = true := ⟨rfl, by simp [Value.cells, Value.oneCell']⟩

/-- Two rows in different blocks. -/
def Apart (A A' : Option Addr) : Prop := ∀ k, A = some ⟨k, 0, none⟩ → A' ≠ some ⟨k, 0, none⟩
theorem RB.ad {B : Nat} {E : TypeId} {w : World} {A : Option Addr} {c : Nat} {xs : List H3} (h : RB B E w A c xs) : ∀ k, A = some ⟨k, 0, none⟩ → B ≤ k ∧ k < w.heap.size := fun k hk => h.lt k (by subst hk; rfl)
theorem apart_new {B B' : Nat} {E E' : TypeId} {W W' : World} {A A' : Option Addr} {c c' : Nat} {xs ys : List H3} (h : RB B E W A c xs) (h2 : RB B' E' W' A' c' ys) (hB : W.heap.size ≤ B') : Apart A A' := fun k h1 h3 => by
  have := (h.ad k h1).2
  have := (h2.ad k h3).1
  omega
theorem Apart.symm {A A' : Option Addr} (h : Apart A A') : Apart A' A := fun k h1 h2 => h k h2 h1
theorem RB.form {B : Nat} {E : TypeId} {w : World} {A : Option Addr} {c : Nat} {xs : List H3} (h : RB B E w A c xs) : A = none ∨ ∃ g, A = some ⟨g, 0, none⟩ := by
  rcases h.2 with ⟨e, _⟩ | ⟨g, cap, cur, e, _⟩
  · injection e with e; exact .inl e
  · injection e with e; exact .inr ⟨g, e⟩
theorem own_of {A : Option Addr} {n c k : Nat} (h : (Value.slice A n c).ownBlock = some k) : ∃ o s, A = some ⟨k, o, s⟩ := by
  cases A with
  | none => cases h
  | some a => obtain ⟨g, o, s⟩ := a; injection h with h; subst h; exact ⟨o, s, rfl⟩
theorem RB.grown {B B1 n c1 c2 : Nat} {E E1 : TypeId} {w w' w1 : World} {A A1 : Option Addr} {c : Nat} {xs ys : List H3} (h : RB B E w A c xs) (h1 : RB B1 E1 w1 A1 c2 ys) (hg : w.grownBy w' (Value.slice A1 n c1).ownBlock) (hne : Apart A1 A) : RB B E w' A c xs := by
  refine ⟨h.1, ?_⟩
  rcases h.2 with e | ⟨g, cap, cu, e1, hgB, hh, hr⟩
  · exact .inl e
  · refine .inr ⟨g, cap, cu, e1, hgB, ?_, hr⟩
    refine (hg.block g (Array.getElem?_eq_some_iff.1 hh).1 fun e => ?_).trans hh
    injection e1 with e1
    subst e1
    obtain ⟨o, s, e2⟩ := own_of e.symm
    rcases h1.form with e3 | ⟨g', e3⟩
    · rw [e3] at e2; cases e2
    · have e4 := e3
      rw [e2] at e3
      injection e3 with e3
      injection e3 with e5 _
      subst e5
      exact hne g e4 rfl
theorem box_below {W W' : World} {b : Nat} {o : Obj} (h : Hid (W.heap[b]? = some o)) (K : Below W.heap.size W W') : Hid (W'.heap[b]? = some o) := Lib.hid ((K.block b (Array.getElem?_eq_some_iff.1 h.out).1).trans h.out)
theorem box_grown {W W' : World} {b n c : Nat} {A : Option Addr} {o : Obj} (h : Hid (W.heap[b]? = some o)) (K : W.grownBy W' (Value.slice A n c).ownBlock) (hne : some b ≠ (Value.slice A n c).ownBlock) : Hid (W'.heap[b]? = some o) := Lib.hid ((K.block b (Array.getElem?_eq_some_iff.1 h.out).1 hne).trans h.out)
theorem grown_pre {W E W' : World} {o : Option Nat} (h : Below W.heap.size W E) (hg : E.grownBy W' o) : W.grownBy W' o :=
  ⟨hg.os.trans h.os, hg.tape.trans h.tape, hg.output.trans h.output, Nat.le_trans h.size hg.size, fun k hk hne => (hg.block k (Nat.lt_of_lt_of_le hk h.size) hne).trans (h.block k hk)⟩
end Go.Proofs.YtabmfaamadbefaaGreat