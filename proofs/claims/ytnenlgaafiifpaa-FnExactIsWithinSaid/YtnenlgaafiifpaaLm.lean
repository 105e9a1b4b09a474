/- Contracts of markRegion and heldRegion. Condition: rows of at most 2^20 half planes. -/
import Derived.Test.YtnenlgaafiifpaaLh
set_option linter.unusedSimpArgs false
set_option linter.unusedVariables false
set_option linter.unusedSectionVars false
namespace Go.Proofs.Ytnenlgaafiifpaa
open Go.ChangeShapes Go.WideShapes Go.ChangeAt Go.RowKit Go.Joins

theorem grownBy_set {w wr : World} {g i : Nat} {v : Value} (h : w.grownBy wr (some g)) : w.grownBy (wr.setCell ⟨g, i, none⟩ v) (some g) :=
  ⟨h.os, h.tape, h.output, by simpa using h.size, fun k hk hne => (heap_setCell_other _ _ _ _ (fun e => hne (by rw [e]))).trans (h.block k hk hne)⟩
theorem grownBy_ov {w wr : World} {o : Option Nat} (x : More) (h : w.grownBy wr o) : w.grownBy (ov wr x) o :=
  ⟨h.os, h.tape, h.output, Nat.le_trans h.size (by rw [ov_size]; omega), fun k hk hne => (ov_block _ x (Nat.lt_of_lt_of_le hk h.size)).trans (h.block k hk hne)⟩
theorem grownBy_of_below {w wr : World} {o : Option Nat} (h : Below w.heap.size w wr) : w.grownBy wr o := ⟨h.os, h.tape, h.output, h.size, fun k hk _ => h.block k hk⟩

set_option maxHeartbeats 2000000 in
theorem markHalfS_any {B : Nat} {xs : List H3} {A : Option Addr} {c : Nat} {w : World} {kk : Int} (RO0 : RB B 38 w A c xs) (hl : xs.length ≤ 1048576) (hkk : 0 ≤ kk ∧ kk ≤ 1000000000000) :
    Calls Try.prog 66 #[.slice A xs.length c, .int .i64 kk] w fun e w' => e = .returned (.int .i64 (kk + xs.length * 3)) ∧ RB B 38 w' A c (marks kk xs.length) ∧ w.grownBy w' (Value.slice A xs.length c).ownBlock := by
  go_enter Try.func66, Try.ntmps66
  go_wp2
  go_loopw [1, 5] (fun ki i wr => ∃ j : Nat, j ≤ xs.length ∧ i = .int .i64 j ∧ ki = .int .i64 (kk + j * 3) ∧ RB B 38 wr A c (marks kk j ++ xs.drop j) ∧ w.grownBy wr (Value.slice A xs.length c).ownBlock) (fun _ i _ => xs.length - (intOf i).toNat)
  case atStart => exact ⟨0, Nat.zero_le _, rfl, by simp, by simpa [marks] using RO0, ⟨rfl, rfl, rfl, Nat.le_refl _, fun _ _ _ => rfl⟩⟩
  case round =>
    obtain ⟨k, hk, rfl, rfl, RO, hb⟩ := hrel
    have hbs := hb.size
    have hfl : (marks kk k ++ xs.drop k).length = xs.length := by simp [marks_length]; omega
    by_cases hlt : k < xs.length
    · obtain ⟨g6, cur6, rfl, _, hgl6, hgh6, _⟩ := RO.row (by omega)
      have f0 := frozen_blk (j := k * 3) hgh6
      have f1 := frozen_blk (j := k * 3 + 1) hgh6
      have f2 := frozen_blk (j := k * 3 + 2) hgh6
      obtain ⟨g7, e7, _, c0, c1, c2⟩ := RO.r3.at_ (k := k) (by omega)
      have q7 := addr_block e7
      rw [q7] at c0 c1 c2
      obtain ⟨v0, c0⟩ : ∃ v, wr.cell? ⟨g6, k * 3, none⟩ = some v := ⟨_, c0⟩
      obtain ⟨v1, c1⟩ : ∃ v, wr.cell? ⟨g6, k * 3 + 1, none⟩ = some v := ⟨_, c1⟩
      obtain ⟨v2, c2⟩ : ∃ v, wr.cell? ⟨g6, k * 3 + 2, none⟩ = some v := ⟨_, c2⟩
      clear e7 q7 hgh6
      have S1 := RO.set_ rfl (j := k) (by omega) ⟨kk + k * 3, kk + k * 3 + 1, kk + k * 3 + 2⟩
      rw [mark_set hlt] at S1
      simp only [show kk + (k : Int) * 3 + 2 = kk + (k : Int) * 3 + 1 + 1 by omega] at S1
      have HS1 := Lib.hid S1
      have HG : w.grownBy wr (some g6) := by simpa [Value.ownBlock] using hb
      have HG2 := Lib.hid (grownBy_set (i := k * 3 + 2) (v := .int .i64 (kk + k * 3 + 1 + 1)) (grownBy_set (i := k * 3 + 1) (v := .int .i64 (kk + k * 3 + 1)) (grownBy_set (i := k * 3) (v := .int .i64 (kk + k * 3)) HG)))
      clear S1 RO0 RO hb HG
      go_wp2
      go_roundw
      case rel => exact ⟨k + 1, by omega, by go_num, by simp; omega, HS1.out.1, by simpa [Value.ownBlock] using HG2.out⟩
      case measure => simp [intOf] <;> omega
    · obtain rfl : k = xs.length := by omega
      rw [List.drop_length, List.append_nil] at RO
      go_wp2
      go_ret
      exact ⟨rfl, RO, hb⟩
theorem markRegion_any {B : Nat} {xs : List H3} {A : Option Addr} {c : Nat} {w : World} {kk : Int} (RO0 : RB B 38 w A c xs) (hl : xs.length ≤ 1048576) (hkk : 0 ≤ kk ∧ kk ≤ 1000000000000) :
    Calls Try.prog 20 #[.agg #[.slice A xs.length c], .int .i64 kk] w fun e w' => e = .returned (.int .i64 (kk + xs.length * 3)) ∧ RB B 38 w' A c (marks kk xs.length) ∧ w.grownBy w' (Value.slice A xs.length c).ownBlock := by
  go_enter Try.func20, Try.ntmps20
  go_wp2_with fail
  refine (markHalfS_any (RO0.below (by repeat (first | exact Below.refl _ _ | refine below_ov _ _ ?_ (by first | omega | (simp [ov_size] <;> omega)) | refine Below.alloc ?_ (by first | omega | (simp [ov_size] <;> omega)) _ | refine Below.setCell ?_ (by first | omega | (simp [ov_size] <;> omega)) _ | refine Below.drew ?_ | refine below_drewN ?_ _))) hl hkk).mono ?_
  rintro e w1 ⟨rfl, R1, hg⟩
  have hg' : w.grownBy w1 (Value.slice A xs.length c).ownBlock := ⟨hg.os, hg.tape, hg.output, by have := hg.size; simp at this; omega, fun k hk hne => (hg.block k (by simp; omega) hne).trans (heap_old_at hk)⟩
  clear hg
  go_wp2
  go_ret
  exact ⟨rfl, R1, hg'⟩

set_option maxHeartbeats 2000000 in
theorem heldHalfS_any {n : Nat} {A : Option Addr} {c : Nat} {w : World} (R : R3 38 w A c (marks 1 n)) (hl : n ≤ 1048576) :
    Calls Try.prog 67 #[.slice A n c, .int .i64 1] w fun e w' => e = .returned (.int .i64 (1 + n * 3)) ∧ Below w.heap.size w w' := by
  have ml := marks_length 1 n
  go_enter Try.func67, Try.ntmps67
  go_wp2
  go_loopw [1, 5] (fun kk i wr => ∃ j : Nat, j ≤ n ∧ i = .int .i64 j ∧ kk = .int .i64 (1 + j * 3) ∧ Below w.heap.size w wr) (fun _ i _ => n - (intOf i).toNat)
  case atStart => exact ⟨0, Nat.zero_le _, rfl, rfl, Below.refl _ _⟩
  case round =>
    obtain ⟨k, hk, rfl, rfl, hb⟩ := hrel
    have hbs := hb.size
    by_cases hlt : k < n
    · obtain ⟨g7, rfl, hg, c0, c1, c2⟩ := (R.below hb).at_ (k := k) (by omega)
      rw [marks_get 1 n k (by omega)] at c0 c1 c2
      simp only at c0 c1 c2
      have z1 : ((1 + (k : Int) * 3) != 1 + (k : Int) * 3) = false := by simp
      clear R
      go_wp2
      go_roundw
      case rel => exact ⟨k + 1, by omega, by go_num, by simp; omega, (by repeat (first | exact hb | refine below_ov _ _ ?_ (by first | omega | (simp [ov_size] <;> omega)) | refine Below.alloc ?_ (by first | omega | (simp [ov_size] <;> omega)) _ | refine Below.setCell ?_ (by first | omega | (simp [ov_size] <;> omega)) _ | refine Below.drew ?_ | refine below_drewN ?_ _))⟩
      case measure => simp [intOf] <;> omega
    · obtain rfl : k = n := by omega
      go_wp2
      go_ret
      exact ⟨rfl, hb⟩
theorem heldRegion_any {n : Nat} {A : Option Addr} {c : Nat} {w : World} (R : R3 38 w A c (marks 1 n)) (hl : n ≤ 1048576) :
    Calls Try.prog 21 #[.agg #[.slice A n c], .int .i64 1] w fun e w' => e = .returned (.int .i64 (1 + n * 3)) ∧ Below w.heap.size w w' := by
  go_enter Try.func21, Try.ntmps21
  go_wp2_with ((go_at_call 67; (first | (with_reducible refine (calls_ov2 (heldHalfS_any (R3.alloc R _) hl)).mono ?_) | refine (calls_ov (heldHalfS_any (R3.alloc R _) hl)).mono ?_); rintro e w' ⟨rfl, x, rfl⟩))
  go_ret
  exact ⟨rfl, (by repeat (first | exact Below.refl _ _ | refine below_ov _ _ ?_ (by first | omega | (simp [ov_size] <;> omega)) | refine Below.alloc ?_ (by first | omega | (simp [ov_size] <;> omega)) _ | refine Below.setCell ?_ (by first | omega | (simp [ov_size] <;> omega)) _ | refine Below.drew ?_ | refine below_drewN ?_ _))⟩
end Go.Proofs.Ytnenlgaafiifpaa
