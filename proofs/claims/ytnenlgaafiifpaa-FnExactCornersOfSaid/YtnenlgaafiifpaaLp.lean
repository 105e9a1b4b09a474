/- Rows of spots in the laws: the comparison, the marks. Condition: at most 2^20 spots where said. -/
import Derived.Test.YtnenlgaafiifpaaWl
set_option linter.unusedVariables false
set_option linter.unusedSimpArgs false
set_option linter.unusedSectionVars false
namespace Go.Proofs.Ytnenlgaafiifpaa
open Go.ChangeShapes Go.WideShapes Go.ChangeAt Go.RowKit Go.Joins

set_option maxHeartbeats 1000000 in
theorem eqSpotS_same {xs : List H3} {A1 A2 : Option Addr} {c1 c2 : Nat} {w : World} (R1 : R3 42 w A1 c1 xs) (R2 : R3 42 w A2 c2 xs) (hx : xs.length ≤ 1000000000) :
    Calls Try.prog 44 #[.slice A1 xs.length c1, .slice A2 xs.length c2] w fun e w' => e = .returned (.bool true) ∧ Below w.heap.size w w' := by
  go_enter Try.func44, Try.ntmps44
  go_wp2
  go_loopw [5] (fun i wr => ∃ k : Nat, k ≤ xs.length ∧ i = .int .i64 k ∧ Below w.heap.size w wr) (fun i _ => xs.length - (intOf i).toNat)
  case atStart => exact ⟨0, Nat.zero_le _, rfl, Below.refl _ _⟩
  case round =>
    obtain ⟨k, hk, rfl, hb⟩ := hrel
    have hbs := hb.size
    by_cases hlt : k < xs.length
    · obtain ⟨g1, rfl, hg1, z0, z1, z2⟩ := (R1.below hb).at_ hlt
      obtain ⟨g2, rfl, hg2, y0, y1, y2⟩ := (R2.below hb).at_ hlt
      go_wp2
      ((first | (with_reducible refine wp_region_calm2 (by kernel_rfl) (by kernel_rfl) ?_) | refine wp_region_calm (by kernel_rfl) (by kernel_rfl) ?_); (repeat (go_big_quiet_step (first | (go_at_call 27; exact calm_below (eqSpot_same xs[k].a xs[k].b xs[k].c _))))); refine wpQuiet_nil ?_; rintro _ ⟨y, rfl⟩)
      go_wp2
      go_roundw
      case rel => exact ⟨k + 1, by omega, by go_num, (by repeat (first | exact hb | refine below_ov _ _ ?_ (by first | omega | (simp [ov_size] <;> omega)) | refine Below.alloc ?_ (by first | omega | (simp [ov_size] <;> omega)) _ | refine Below.setCell ?_ (by first | omega | (simp [ov_size] <;> omega)) _ | refine Below.drew ?_ | refine below_drewN ?_ _))⟩
      case measure => simp [intOf] <;> omega
    · obtain rfl : k = xs.length := by omega
      go_wp2
      go_ret
      exact ⟨rfl, hb⟩
set_option maxHeartbeats 2000000 in
theorem markSpotS_any {B : Nat} {xs : List H3} {A : Option Addr} {c : Nat} {w : World} {kk : Int} (RO0 : RB B 42 w A c xs) (hl : xs.length ≤ 1048576) (hkk : 0 ≤ kk ∧ kk ≤ 1000000000000) :
    Calls Try.prog 45 #[.slice A xs.length c, .int .i64 kk] w fun e w' => e = .returned (.int .i64 (kk + xs.length * 3)) ∧ RB B 42 w' A c (marks kk xs.length) ∧ w.grownBy w' (Value.slice A xs.length c).ownBlock := by
  go_enter Try.func45, Try.ntmps45
  go_wp2
  go_loopw [1, 5] (fun ki i wr => ∃ j : Nat, j ≤ xs.length ∧ i = .int .i64 j ∧ ki = .int .i64 (kk + j * 3) ∧ RB B 42 wr A c (marks kk j ++ xs.drop j) ∧ w.grownBy wr (Value.slice A xs.length c).ownBlock) (fun _ i _ => xs.length - (intOf i).toNat)
  case atStart => exact ⟨0, Nat.zero_le _, rfl, by simp, by simpa [marks] using RO0, ⟨rfl, rfl, rfl, Nat.le_refl _, fun _ _ _ => rfl⟩⟩
  case round =>
    obtain ⟨k, hk, rfl, rfl, RO, hb⟩ := hrel
    have hbs := hb.size
    have hfl : (marks kk k ++ xs.drop k).length = xs.length := by simp [marks_length]; omega
    by_cases hlt : k < xs.length
    · obtain ⟨g6, cur6, rfl, _, hgl6, hgh6, _⟩ := RO.row (by omega)
      have f0 := frozen_blk (j := k * 3) hgh6
      have f1 := frozen_blk (j := k * 3 + 1) hgh6
      have f2 := frozen_blk (j := k * 3 + 2) hgh6
      obtain ⟨g7, e7, _, c0, c1, c2⟩ := RO.r3.at_ (k := k) (by omega)
      have q7 := addr_block e7
      rw [q7] at c0 c1 c2
      obtain ⟨v0, c0⟩ : ∃ v, wr.cell? ⟨g6, k * 3, none⟩ = some v := ⟨_, c0⟩
      obtain ⟨v1, c1⟩ : ∃ v, wr.cell? ⟨g6, k * 3 + 1, none⟩ = some v := ⟨_, c1⟩
      obtain ⟨v2, c2⟩ : ∃ v, wr.cell? ⟨g6, k * 3 + 2, none⟩ = some v := ⟨_, c2⟩
      clear e7 q7 hgh6
      have S1 := RO.set_ rfl (j := k) (by omega) ⟨kk + k * 3, kk + k * 3 + 1, kk + k * 3 + 2⟩
      rw [mark_set hlt] at S1
      simp only [show kk + (k : Int) * 3 + 2 = kk + (k : Int) * 3 + 1 + 1 by omega] at S1
      have HS1 := Lib.hid S1
      have HG : w.grownBy wr (some g6) := by simpa [Value.ownBlock] using hb
      have HG2 := Lib.hid (grownBy_set (i := k * 3 + 2) (v := .int .i64 (kk + k * 3 + 1 + 1)) (grownBy_set (i := k * 3 + 1) (v := .int .i64 (kk + k * 3 + 1)) (grownBy_set (i := k * 3) (v := .int .i64 (kk + k * 3)) HG)))
      clear S1 RO0 RO hb HG
      go_wp2
      go_roundw
      case rel => exact ⟨k + 1, by omega, by go_num, by simp; omega, HS1.out.1, by simpa [Value.ownBlock] using HG2.out⟩
      case measure => simp [intOf] <;> omega
    · obtain rfl : k = xs.length := by omega
      rw [List.drop_length, List.append_nil] at RO
      go_wp2
      go_ret
      exact ⟨rfl, RO, hb⟩
set_option maxHeartbeats 2000000 in
theorem heldSpotS_any {n : Nat} {A : Option Addr} {c : Nat} {w : World} (R : R3 42 w A c (marks 1 n)) (hl : n ≤ 1048576) :
    Calls Try.prog 46 #[.slice A n c, .int .i64 1] w fun e w' => e = .returned (.int .i64 (1 + n * 3)) ∧ Below w.heap.size w w' := by
  have ml := marks_length 1 n
  go_enter Try.func46, Try.ntmps46
  go_wp2
  go_loopw [1, 5] (fun kk i wr => ∃ j : Nat, j ≤ n ∧ i = .int .i64 j ∧ kk = .int .i64 (1 + j * 3) ∧ Below w.heap.size w wr) (fun _ i _ => n - (intOf i).toNat)
  case atStart => exact ⟨0, Nat.zero_le _, rfl, rfl, Below.refl _ _⟩
  case round =>
    obtain ⟨k, hk, rfl, rfl, hb⟩ := hrel
    have hbs := hb.size
    by_cases hlt : k < n
    · obtain ⟨g7, rfl, hg, c0, c1, c2⟩ := (R.below hb).at_ (k := k) (by omega)
      rw [marks_get 1 n k (by omega)] at c0 c1 c2
      simp only at c0 c1 c2
      have z1 : ((1 + (k : Int) * 3) != 1 + (k : Int) * 3) = false := by simp
      clear R
      go_wp2
      go_roundw
      case rel => exact ⟨k + 1, by omega, by go_num, by simp; omega, (by repeat (first | exact hb | refine below_ov _ _ ?_ (by first | omega | (simp [ov_size] <;> omega)) | refine Below.alloc ?_ (by first | omega | (simp [ov_size] <;> omega)) _ | refine Below.setCell ?_ (by first | omega | (simp [ov_size] <;> omega)) _ | refine Below.drew ?_ | refine below_drewN ?_ _))⟩
      case measure => simp [intOf] <;> omega
    · obtain rfl : k = n := by omega
      go_wp2
      go_ret
      exact ⟨rfl, hb⟩
end Go.Proofs.Ytnenlgaafiifpaa
