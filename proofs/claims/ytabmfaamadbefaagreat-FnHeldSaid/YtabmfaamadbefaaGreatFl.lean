/- Contracts of floorDiv and ceilDiv. Condition: the numbers are at most 10^18. -/
import Derived.Test.YtabmfaamadbefaaGreatRt
set_option linter.unusedSimpArgs false
set_option linter.unusedVariables false
set_option linter.unusedSectionVars false
namespace Go.Proofs.YtabmfaamadbefaaGreat
open Go.RowKit Go.Lib
def ceilF (a b : Int) : Int := -((-a) / b)
theorem ceilF_bd {a b : Int} (hb : 0 < b) (ha : -1000000000000000000 ≤ a ∧ a ≤ 1000000000000000000) (hb' : b ≤ 1000000000000000000) : -1000000000000000000 ≤ ceilF a b ∧ ceilF a b ≤ 1000000000000000000 := by
  have := cf_bd (a := -a) hb (by omega) hb'
  unfold ceilF; omega

theorem floorDiv_any (a b : Int) (w : World) (ha : -1000000000000000000 ≤ a ∧ a ≤ 1000000000000000000) (hb : 0 < b ∧ b ≤ 1000000000000000000) :
    Calls Tryz.prog 111 #[.int .i64 a, .int .i64 b] w fun e w' => e = .returned (.int .i64 (a / b)) ∧ w = w' := by
  have hF := Lib.hid (tdiv_floor (a := a) hb.1)
  have hB := cf_bd hb.1 ha hb.2
  have hQ : a.tdiv b = a / b ∨ a.tdiv b = a / b + 1 := by have := hF.out; split at this <;> omega
  have hb0 : (b == 0) = false := by simp; omega
  have hw1 : IntKind.i64.wrap (a.tdiv b) = a.tdiv b := by rw [IntKind.wrap_i64]; omega
  have hw2 : IntKind.i64.wrap (a.tdiv b - 1) = a.tdiv b - 1 := by rw [IntKind.wrap_i64]; omega
  have hm := Int.tmod_lt_of_pos a hb.1
  have hm2 := Int.lt_tmod_of_pos a hb.1
  have hw3 : IntKind.i64.wrap (a.tmod b) = a.tmod b := by rw [IntKind.wrap_i64]; omega
  by_cases hn : a.tmod b < 0
  · go_enter Tryz.func111, Tryz.ntmps111
    go_wp2
    go_ret
    exact ⟨ret_int (by rw [hF.out, if_pos hn]), rfl⟩
  · go_enter Tryz.func111, Tryz.ntmps111
    go_wp2
    go_ret
    exact ⟨ret_int (by rw [hF.out, if_neg (by omega)]), rfl⟩

theorem ceilDiv_any (a b : Int) (w : World) (ha : -1000000000000000000 ≤ a ∧ a ≤ 1000000000000000000) (hb : 0 < b ∧ b ≤ 1000000000000000000) :
    Calls Tryz.prog 110 #[.int .i64 a, .int .i64 b] w fun e w' => e = .returned (.int .i64 (ceilF a b)) ∧ w = w' := by
  have hC := Lib.hid (show -((-a) / b) = ceilF a b from rfl)
  have hB := ceilF_bd hb.1 ha hb.2
  have hw1 : IntKind.i64.wrap (-a) = -a := by rw [IntKind.wrap_i64]; omega
  have hw2 : IntKind.i64.wrap (-((-a) / b)) = -((-a) / b) := by rw [IntKind.wrap_i64]; unfold ceilF at hB; omega
  go_enter Tryz.func110, Tryz.ntmps110
  go_wp2_with ((go_at_call 111; refine (floorDiv_any _ _ _ (by omega) (by omega)).mono ?_; rintro e w' ⟨rfl, rfl⟩))
  go_ret
  exact ⟨rfl, rfl⟩

end Go.Proofs.YtabmfaamadbefaaGreat