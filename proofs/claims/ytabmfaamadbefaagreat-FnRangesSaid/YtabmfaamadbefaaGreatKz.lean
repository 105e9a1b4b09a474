/- Contracts of SameRooms, of the program and of the reference. Condition: rows of at most 2^20. -/
import Derived.Test.YtabmfaamadbefaaGreatQz
set_option linter.unusedVariables false
set_option linter.unusedSimpArgs false
set_option linter.unusedSectionVars false
namespace Go.Proofs.YtabmfaamadbefaaGreat
open Go.RowKit
def sameRoomR (a b : RoomV) : Bool := decide (a.m = b.m) && decide (a.q = b.q) && decide (a.bx = b.bx) && decide (a.by_ = b.by_) && decide (a.lo = b.lo) && decide (a.hi = b.hi) && decide (a.ns = b.ns) && decide (a.ls = b.ls)

set_option maxHeartbeats 2000000 in
theorem EqualI_eq {xs ys : List Int} {A1 A2 : Option Addr} {c1 c2 : Nat} {w : World} {v : Bool} (R1 : RI w A1 xs) (R2 : RI w A2 ys) (hx : xs.length ≤ 1000000000) (hy : ys.length ≤ 1000000000) (h : Hid (decide (xs = ys) = v)) :
    Calls Tryz.prog 52 #[.slice A1 xs.length c1, .slice A2 ys.length c2] w fun e w' => e = .returned (.bool v) ∧ Below w.heap.size w w' := by
  by_cases hne : xs.length = ys.length
  · have hz : ((xs.length : Int) != (ys.length : Int)) = false := by simp; omega
    have HNE := Lib.hid hne
    clear hne
    go_enter Tryz.func52, Tryz.ntmps52
    go_wp2
    go_loopw [13] (fun i wr => ∃ k : Nat, k ≤ xs.length ∧ i = .int .i64 k ∧ Hid (xs.take k = ys.take k) ∧ Below w.heap.size w wr) (fun i _ => xs.length - (intOf i).toNat)
    case atStart => exact ⟨0, Nat.zero_le _, rfl, Lib.hid rfl, Below.refl _ _⟩
    case round =>
      obtain ⟨k, hk, rfl, HA, hb⟩ := hrel
      have hbs := hb.size
      by_cases hlt : k < xs.length
      · have hlt2 : k < ys.length := by have := HNE.out; omega
        obtain ⟨g1, o1, rfl, hg1, z0⟩ := (R1.below hb) k hlt
        obtain ⟨g2, o2, rfl, hg2, y0⟩ := (R2.below hb) k hlt2
        by_cases he : xs[k] = ys[k]
        · have HE := Lib.hid he
          have hz2 : (xs[k] != ys[k]) = false := by simp [he]
          clear he R1 R2
          go_wp2
          ((first | (with_reducible refine wp_region_calm2 (by kernel_rfl) (by kernel_rfl) ?_) | refine wp_region_calm (by kernel_rfl) (by kernel_rfl) ?_); (repeat (go_big_quiet_step (first | fail))); refine wpQuiet_nil ?_; rintro _ ⟨y, rfl⟩)
          go_wp2
          go_roundw
          case rel => exact ⟨k + 1, by omega, by go_num, Lib.hid (by rw [List.take_succ_eq_append_getElem hlt, List.take_succ_eq_append_getElem hlt2, HA.out, HE.out]), (by repeat (first | exact hb | refine bO ?_ | refine bA ?_ | refine bS ?_ | refine bD ?_ | refine bN ?_))⟩
          case measure => simp [intOf]; omega
        · obtain rfl : v = false := by
            rw [← h.out, decide_eq_false_iff_not]
            intro e
            subst e
            exact he rfl
          have hz2 : (xs[k] != ys[k]) = true := by simp [he]
          clear R1 R2
          go_wp2
          ((first | (with_reducible refine wp_region_calm2 (by kernel_rfl) (by kernel_rfl) ?_) | refine wp_region_calm (by kernel_rfl) (by kernel_rfl) ?_); (repeat (go_big_quiet_step (first | fail))); refine wpQuiet_nil ?_; rintro _ ⟨y, rfl⟩)
          go_wp2
          go_ret
          exact ⟨rfl, (by repeat (first | exact hb | refine bO ?_ | refine bA ?_ | refine bS ?_ | refine bD ?_ | refine bN ?_))⟩
      · obtain rfl : k = xs.length := by omega
        obtain rfl : v = true := by
          rw [← h.out, decide_eq_true_eq]
          have := HA.out
          rwa [List.take_length, HNE.out, List.take_length] at this
        go_wp2
        go_ret
        exact ⟨rfl, hb⟩
  · obtain rfl : v = false := by
      rw [← h.out, decide_eq_false_iff_not]
      intro e
      subst e
      exact hne rfl
    have hz : ((xs.length : Int) != (ys.length : Int)) = true := by simp; omega
    have hz' : ¬ ((xs.length : Int) = (ys.length : Int)) := by omega
    clear hne
    go_enter Tryz.func52, Tryz.ntmps52
    go_wp2
    go_ret
    exact ⟨rfl, Below.refl _ _⟩

set_option maxRecDepth 100000 in
set_option maxHeartbeats 8000000 in
theorem impl_SameRooms_eq {a b : RoomV} {v : Bool} {A1 A2 A3 B1 B2 B3 : Option Addr} {c1 c2 c3 d1 d2 d3 : Nat} {w : World} (M : RM w a A1 A2 c2 A3 c3) (N : RM w b B1 B2 d2 B3 d3) (hs : a.Short) (ht : b.Short) (h : Hid (sameRoomR a b = v)) :
    Calls Tryz.prog 14 #[.agg #[.slice A1 a.m.length c1, .int .i64 a.q, .int .i64 a.bx, .int .i64 a.by_, .int .i64 a.lo, .int .i64 a.hi, .slice A2 a.ns.length c2, .slice A3 a.ls.length c3], .agg #[.slice B1 b.m.length d1, .int .i64 b.q, .int .i64 b.bx, .int .i64 b.by_, .int .i64 b.lo, .int .i64 b.hi, .slice B2 b.ns.length d2, .slice B3 b.ls.length d3]] w fun e w' => e = .returned (.bool v) ∧ Below w.heap.size w w' := by
  obtain ⟨k1, k2, k3⟩ := hs
  obtain ⟨l1, l2, l3⟩ := ht
  have hv := h.out
  unfold sameRoomR at hv
  clear h
  obtain ⟨t1, h1⟩ : ∃ t, decide (a.m = b.m) = t := ⟨_, rfl⟩
  obtain ⟨t7, h7⟩ : ∃ t, decide (a.ns = b.ns) = t := ⟨_, rfl⟩
  obtain ⟨t8, h8⟩ : ∃ t, decide (a.ls = b.ls) = t := ⟨_, rfl⟩
  rw [h1, h7, h8] at hv
  have H1 := Lib.hid h1
  have H7 := Lib.hid h7
  have H8 := Lib.hid h8
  clear h1 h7 h8
  have hc : (v = false ∧ (t1 = false ∨ (t1 = true ∧ ¬ a.q = b.q) ∨ (t1 = true ∧ a.q = b.q ∧ ¬ a.bx = b.bx) ∨ (t1 = true ∧ a.q = b.q ∧ a.bx = b.bx ∧ ¬ a.by_ = b.by_) ∨ (t1 = true ∧ a.q = b.q ∧ a.bx = b.bx ∧ a.by_ = b.by_ ∧ ¬ a.lo = b.lo) ∨ (t1 = true ∧ a.q = b.q ∧ a.bx = b.bx ∧ a.by_ = b.by_ ∧ a.lo = b.lo ∧ ¬ a.hi = b.hi) ∨ (t1 = true ∧ a.q = b.q ∧ a.bx = b.bx ∧ a.by_ = b.by_ ∧ a.lo = b.lo ∧ a.hi = b.hi ∧ t7 = false) ∨ (t1 = true ∧ a.q = b.q ∧ a.bx = b.bx ∧ a.by_ = b.by_ ∧ a.lo = b.lo ∧ a.hi = b.hi ∧ t7 = true ∧ t8 = false))) ∨ (v = true ∧ t1 = true ∧ a.q = b.q ∧ a.bx = b.bx ∧ a.by_ = b.by_ ∧ a.lo = b.lo ∧ a.hi = b.hi ∧ t7 = true ∧ t8 = true) := by
    revert hv
    by_cases q2 : a.q = b.q <;> by_cases q3 : a.bx = b.bx <;> by_cases q4 : a.by_ = b.by_ <;> by_cases q5 : a.lo = b.lo <;> by_cases q6 : a.hi = b.hi <;> cases t1 <;> cases t7 <;> cases t8 <;> simp [q2, q3, q4, q5, q6] <;> exact fun e => e.symm
  clear hv
  rcases hc with ⟨rfl, rfl | ⟨rfl, q2⟩ | ⟨rfl, q2, q3⟩ | ⟨rfl, q2, q3, q4⟩ | ⟨rfl, q2, q3, q4, q5⟩ | ⟨rfl, q2, q3, q4, q5, q6⟩ | ⟨rfl, q2, q3, q4, q5, q6, rfl⟩ | ⟨rfl, q2, q3, q4, q5, q6, rfl, rfl⟩⟩ | ⟨rfl, rfl, q2, q3, q4, q5, q6, rfl, rfl⟩
  all_goals
    go_enter Tryz.func14, Tryz.ntmps14
    go_wp2_with (first | (go_at_call 52; (first | (with_reducible refine (calls_ov2 (EqualI_eq (M.mr.below (by repeat (first | exact bR | refine bO ?_ | refine bA ?_ | refine bS ?_ | refine bD ?_ | refine bN ?_))) (N.mr.below (by repeat (first | exact bR | refine bO ?_ | refine bA ?_ | refine bS ?_ | refine bD ?_ | refine bN ?_))) (by omega) (by omega) H1)).mono ?_) | refine (calls_ov (EqualI_eq (M.mr.below (by repeat (first | exact bR | refine bO ?_ | refine bA ?_ | refine bS ?_ | refine bD ?_ | refine bN ?_))) (N.mr.below (by repeat (first | exact bR | refine bO ?_ | refine bA ?_ | refine bS ?_ | refine bD ?_ | refine bN ?_))) (by omega) (by omega) H1)).mono ?_); rintro e w' ⟨rfl, x, rfl⟩) | (go_at_call 22; (first | (with_reducible refine (calls_ov2 (SameRegion_eq (by first | exact M.nr.below (by repeat (first | exact bR | refine bO ?_ | refine bA ?_ | refine bS ?_ | refine bD ?_ | refine bN ?_)) | exact M.lr.below (by repeat (first | exact bR | refine bO ?_ | refine bA ?_ | refine bS ?_ | refine bD ?_ | refine bN ?_))) (by first | exact N.nr.below (by repeat (first | exact bR | refine bO ?_ | refine bA ?_ | refine bS ?_ | refine bD ?_ | refine bN ?_)) | exact N.lr.below (by repeat (first | exact bR | refine bO ?_ | refine bA ?_ | refine bS ?_ | refine bD ?_ | refine bN ?_))) (by omega) (by omega) (by first | exact H7 | exact H8))).mono ?_) | refine (calls_ov (SameRegion_eq (by first | exact M.nr.below (by repeat (first | exact bR | refine bO ?_ | refine bA ?_ | refine bS ?_ | refine bD ?_ | refine bN ?_)) | exact M.lr.below (by repeat (first | exact bR | refine bO ?_ | refine bA ?_ | refine bS ?_ | refine bD ?_ | refine bN ?_))) (by first | exact N.nr.below (by repeat (first | exact bR | refine bO ?_ | refine bA ?_ | refine bS ?_ | refine bD ?_ | refine bN ?_)) | exact N.lr.below (by repeat (first | exact bR | refine bO ?_ | refine bA ?_ | refine bS ?_ | refine bD ?_ | refine bN ?_))) (by omega) (by omega) (by first | exact H7 | exact H8))).mono ?_); rintro e w' ⟨rfl, x, rfl⟩))
    go_ret
    exact ⟨rfl, (by repeat (first | exact bR | refine bO ?_ | refine bA ?_ | refine bS ?_ | refine bD ?_ | refine bN ?_))⟩
end Go.Proofs.YtabmfaamadbefaaGreat