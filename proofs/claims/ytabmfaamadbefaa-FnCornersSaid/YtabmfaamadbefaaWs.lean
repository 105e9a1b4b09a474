/- Contract of WholeSpots. Condition: the row is short. -/
import Derived.Test.YtabmfaamadbefaaZh
set_option linter.unusedSimpArgs false
set_option linter.unusedVariables false
set_option linter.unusedSectionVars false
namespace Go.Proofs.Ytabmfaamadbefaa
open Go.RowKit Go.Lib

theorem cntC_of {hs : List H3} {x l t : Int} (h : colI x hs = (l, t)) : max (t - l + 1) 0 = cntC hs x := by unfold cntC; rw [h]
set_option maxRecDepth 100000 in
set_option maxHeartbeats 4000000 in
theorem impl_WholeSpots_eq {hs : List H3} {v : Int} {A : Option Addr} {c : Nat} {w : World} (R : R3 36 w A c hs) (hl : hs.length ≤ 1000000000) (hr : Hid (wholeN hs = v)) :
    Calls Try.prog 16 #[.agg #[.slice A hs.length c]] w fun e w' => e = .returned (.int .i64 v) ∧ Below w.heap.size w w' := by
  have h := hr.out
  clear hr
  unfold wholeN at h
  obtain ⟨t0, h0⟩ : ∃ t, decide (hs.length = 0) = t := ⟨_, rfl⟩
  obtain ⟨t1, h1⟩ : ∃ t, regionOk hs = t := ⟨_, rfl⟩
  have H0 := Lib.hid h0
  have H1 := Lib.hid h1
  cases t0 with
  | true =>
    have e : hs = [] := List.length_eq_zero_iff.1 (by simpa using h0)
    rw [if_neg (fun q => q.1 e)] at h
    subst h
    clear h0 h1 e
    go_enter Try.func16, Try.ntmps16
    go_wp2_with (first | (go_at_call 13; (first | (with_reducible refine (calls_ov2 (IsVoid_eq H0)).mono ?_) | refine (calls_ov (IsVoid_eq H0)).mono ?_); rintro e w' ⟨rfl, x, rfl⟩) | (go_at_call 30; (first | (with_reducible refine (calls_ov2 (impl_RegionOk_eq (R.below (by repeat (first | exact bR | refine bO ?_ | refine bA ?_ | refine bS ?_ | refine bD ?_ | refine bN ?_))) hl H1)).mono ?_) | refine (calls_ov (impl_RegionOk_eq (R.below (by repeat (first | exact bR | refine bO ?_ | refine bA ?_ | refine bS ?_ | refine bD ?_ | refine bN ?_))) hl H1)).mono ?_); rintro e w' ⟨rfl, x, rfl⟩))
    go_ret
    exact ⟨rfl, (by repeat (first | exact bR | refine bO ?_ | refine bA ?_ | refine bS ?_ | refine bD ?_ | refine bN ?_))⟩
  | false =>
    have e : hs ≠ [] := fun q => by rw [q] at h0; cases h0
    cases t1 with
    | false =>
      rw [if_neg (fun q => by rw [h1] at q; cases q.2)] at h
      subst h
      clear h0 h1 e
      go_enter Try.func16, Try.ntmps16
      go_wp2_with (first | (go_at_call 13; (first | (with_reducible refine (calls_ov2 (IsVoid_eq H0)).mono ?_) | refine (calls_ov (IsVoid_eq H0)).mono ?_); rintro e w' ⟨rfl, x, rfl⟩) | (go_at_call 30; (first | (with_reducible refine (calls_ov2 (impl_RegionOk_eq (R.below (by repeat (first | exact bR | refine bO ?_ | refine bA ?_ | refine bS ?_ | refine bD ?_ | refine bN ?_))) hl H1)).mono ?_) | refine (calls_ov (impl_RegionOk_eq (R.below (by repeat (first | exact bR | refine bO ?_ | refine bA ?_ | refine bS ?_ | refine bD ?_ | refine bN ?_))) hl H1)).mono ?_); rintro e w' ⟨rfl, x, rfl⟩))
      go_ret
      exact ⟨rfl, (by repeat (first | exact bR | refine bO ?_ | refine bA ?_ | refine bS ?_ | refine bD ?_ | refine bN ?_))⟩
    | true =>
      rw [if_pos ⟨e, h1⟩] at h
      obtain ⟨G, l40⟩ := region_good h1
      have HV := Lib.hid h
      clear h h0 h1 e
      go_enter Try.func16, Try.ntmps16
      go_wp2_with (first | (go_at_call 13; (first | (with_reducible refine (calls_ov2 (IsVoid_eq H0)).mono ?_) | refine (calls_ov (IsVoid_eq H0)).mono ?_); rintro e w' ⟨rfl, x, rfl⟩) | (go_at_call 30; (first | (with_reducible refine (calls_ov2 (impl_RegionOk_eq (R.below (by repeat (first | exact bR | refine bO ?_ | refine bA ?_ | refine bS ?_ | refine bD ?_ | refine bN ?_))) hl H1)).mono ?_) | refine (calls_ov (impl_RegionOk_eq (R.below (by repeat (first | exact bR | refine bO ?_ | refine bA ?_ | refine bS ?_ | refine bD ?_ | refine bN ?_))) hl H1)).mono ?_); rintro e w' ⟨rfl, x, rfl⟩))
      obtain ⟨W0, hW⟩ : ∃ W0, W0 = ov (w.alloc (.cells #[.slice A hs.length c] 25)) x := ⟨_, rfl⟩
      rw [← hW]
      have T0 : Below w.heap.size w W0 := by rw [hW]; exact (by repeat (first | exact bR | refine bO ?_ | refine bA ?_ | refine bS ?_ | refine bD ?_ | refine bN ?_))
      have X1 := Lib.hid (show W0.heap[w.heap.size]? = some (.cells #[.slice A hs.length c] 25 (0, 0)) by rw [hW]; exact ov_blk (heap_alloc_new _ _))
      clear hW
      have t0 := T0.size
      obtain ⟨b1, hb1⟩ : ∃ b, w.heap.size = b := ⟨_, rfl⟩
      have RW := R.below T0
      rw [hb1] at X1 ⊢
      go_loopw [3, 4] (fun n i wr => ∃ k : Nat, k ≤ 2001 ∧ i = .int .i64 ((k : Int) - 1000) ∧ n = .int .i64 (sumI (cntC hs) (-1000) k) ∧ Below W0.heap.size W0 wr) (fun _ i _ => (1001 - intOf i).toNat)
      case atStart => exact ⟨0, by omega, rfl, rfl, Below.refl _ _⟩
      case round =>
        obtain ⟨k, hk, rfl, rfl, hb⟩ := hrel
        have hbs := hb.size
        have X3 := box_below X1 hb
        have x1 := cell_blk (j := 0) (v := .slice A hs.length c) X3.out rfl
        have l1 := (Array.getElem?_eq_some_iff.1 X3.out).1
        have RR := RW.below hb
        by_cases hlt : k < 2001
        · obtain ⟨⟨l, t⟩, hc⟩ : ∃ s, colI ((k : Int) - 1000) hs = s := ⟨_, rfl⟩
          have HC := Lib.hid hc
          have bs1 := sumI_bd (hs := hs) (-1000) k
          have bc1 := cntC_bd (hs := hs) ((k : Int) - 1000)
          have HS := Lib.hid (show sumI (cntC hs) (-1000) k + max (t - l + 1) 0 = sumI (cntC hs) (-1000) (k + 1) by rw [cntC_of hc, sumI_succ, show (-1000 : Int) + k = k - 1000 by omega])
          have bi := (col_bd (x := (k : Int) - 1000) (by omega) G)
          have bc : -1000000000000 ≤ l ∧ l ≤ 1000000000000 ∧ -1000000000000 ≤ t ∧ t ≤ 1000000000000 := by
            unfold colI at hc; split at hc
            · simp at hc; omega
            · rw [hc] at bi; simp only at bi; omega
          rw [← cntC_of hc] at bc1
          clear hc bi
          obtain ⟨sk, hsk⟩ : ∃ z, sumI (cntC hs) (-1000) k = z := ⟨_, rfl⟩
          rw [hsk] at HS bs1 ⊢
          clear hsk
          obtain ⟨b2, b3⟩ := bs1
          obtain ⟨b4, b5⟩ := bc1
          obtain ⟨b6, b7, b8, b9⟩ := bc
          have b3' : sk ≤ 5000000 := by omega
          go_wp2_with (first | (go_at_call 44; (first | (with_reducible refine (calls_ov2 (columnOf_eq HC G (by repeat (first | assumption | refine R3.ov ?_ _ | refine R3.alloc ?_ _)) (by omega) (by omega))).mono ?_) | refine (calls_ov (columnOf_eq HC G (by repeat (first | assumption | refine R3.ov ?_ _ | refine R3.alloc ?_ _)) (by omega) (by omega))).mono ?_); rintro e w' ⟨rfl, x, rfl⟩))
          all_goals
            go_roundw
            case rel => exact ⟨k + 1, by omega, by go_num, by first | (rw [← HS.out]; congr 1; omega) | (rw [← HS.out]; go_num), (by repeat (first | exact hb | refine bO ?_ | refine bA ?_ | refine bS ?_ | refine bD ?_ | refine bN ?_))⟩
            case measure => simp [intOf] <;> omega
        · obtain rfl : k = 2001 := by omega
          rw [HV.out]
          go_wp2
          go_ret
          exact ⟨rfl, (by repeat (first | exact T0.trans (hb.mono t0) | refine bO ?_ | refine bA ?_ | refine bS ?_ | refine bD ?_ | refine bN ?_))⟩
end Go.Proofs.Ytabmfaamadbefaa
