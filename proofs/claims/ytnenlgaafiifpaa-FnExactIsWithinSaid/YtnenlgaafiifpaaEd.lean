/- Contracts of crossing and narrow. Condition: the half planes are valid; the mark's denominator is positive. -/
import Derived.Test.YtnenlgaafiifpaaH2
import Derived.Test.YtnenlgaafiifpaaFr
import Derived.Test.YtnenlgaafiifpaaSl
import Derived.Test.YtnenlgaafiifpaaGeoG
set_option linter.unusedSimpArgs false
set_option linter.unusedVariables false
set_option linter.unusedSectionVars false
namespace Go.Proofs.Ytnenlgaafiifpaa
open Go.RowKit

theorem crossing_bd {g h : H3} (kg : HOk g) (kh : HOk h) : (-5000000000000 ≤ g.c * h.b ∧ g.c * h.b ≤ 5000000000000) ∧ (-5000000000000 ≤ h.c * g.b ∧ h.c * g.b ≤ 5000000000000) ∧ (-5000000000000 ≤ g.a * h.c ∧ g.a * h.c ≤ 5000000000000) ∧ (-5000000000000 ≤ h.a * g.c ∧ h.a * g.c ≤ 5000000000000) := by
  have := mul_bd kg.bc kh.bb
  have := mul_bd kh.bc kg.bb
  have := mul_bd kg.ba kh.bc
  have := mul_bd kh.ba kg.bc
  omega

theorem crossing_any {g h : H3} {w : World} (kg : HOk g) (kh : HOk h) (hne : cross g h ≠ 0) : Calls Try.prog 143 #[.agg #[.int .i64 g.a, .int .i64 g.b, .int .i64 g.c], .agg #[.int .i64 h.a, .int .i64 h.b, .int .i64 h.c]] w fun e w' =>
    e = .returned (.tuple #[.int .i64 (crossI g h).1, .int .i64 (crossI g h).2.1, .int .i64 (crossI g h).2.2, .bool true]) ∧ Below w.heap.size w w' := by
  obtain ⟨p1, p2, p3, p4⟩ := crossing_bd kg kh
  have p5 := cross_bd kg kh
  by_cases hs : cross g h < 0
  · have HS := Lib.hid (show crossI g h = (-(g.c * h.b - h.c * g.b), -(g.a * h.c - h.a * g.c), -cross g h) by unfold crossI; rw [if_pos hs])
    clear hne
    go_enter Try.func143, Try.ntmps143
    go_wp2_with (first | (go_at_call 141; (first | (with_reducible refine (calls_ov2 (cross_any kg kh)).mono ?_) | refine (calls_ov (cross_any kg kh)).mono ?_); rintro e w' ⟨rfl, x, rfl⟩))
    refine bodyPost_ret (results_tmp4 rfl _ _ _) rfl ⟨by rw [HS.out]; rfl, ?_⟩
    (repeat (first | exact Below.refl _ _ | refine below_ov _ _ ?_ (by first | omega | (simp [ov_size] <;> omega)) | refine Below.alloc ?_ (by first | omega | (simp [ov_size] <;> omega)) _ | refine Below.setCell ?_ (by first | omega | (simp [ov_size] <;> omega)) _ | refine Below.drew ?_ | refine below_drewN ?_ _))
  · have HS := Lib.hid (show crossI g h = ((g.c * h.b - h.c * g.b), (g.a * h.c - h.a * g.c), cross g h) by unfold crossI; rw [if_neg hs])
    have hp : 0 < cross g h := by omega
    have hz : (cross g h != 0) = true := by simp; omega
    clear hne
    go_enter Try.func143, Try.ntmps143
    go_wp2_with (first | (go_at_call 141; (first | (with_reducible refine (calls_ov2 (cross_any kg kh)).mono ?_) | refine (calls_ov (cross_any kg kh)).mono ?_); rintro e w' ⟨rfl, x, rfl⟩))
    refine bodyPost_ret (results_tmp4 rfl _ _ _) rfl ⟨by rw [HS.out]; rfl, ?_⟩
    (repeat (first | exact Below.refl _ _ | refine below_ov _ _ ?_ (by first | omega | (simp [ov_size] <;> omega)) | refine Below.alloc ?_ (by first | omega | (simp [ov_size] <;> omega)) _ | refine Below.setCell ?_ (by first | omega | (simp [ov_size] <;> omega)) _ | refine Below.drew ?_ | refine below_drewN ?_ _))

/-- The mark in block B is set. -/
def mset (w : World) (B : Nat) (n d : Int) : World := ((w.setCell ⟨B, 0, none⟩ (.int .i64 n)).setCell ⟨B, 1, none⟩ (.int .i64 d)).setCell ⟨B, 2, none⟩ (.bool true)
@[go_sem] theorem setCell_drewN (w : World) (n : Nat) (a : Addr) (v : Value) : (w.drewN n).setCell a v = (w.setCell a v).drewN n := rfl
theorem quiet_left {P : Program} {f : FuncId} {args : Array Value} {w : World} {n : Nat} {v : Value}
    (h : Calls P f args (w.drewN n) fun e w' => e = .returned v ∧ w.drewN n = w') : Calls P f args (w.drewN n) fun e w'' => e = .returned v ∧ ∃ m, w'' = w.drewN m :=
  h.mono fun _ _ ⟨he, hm⟩ => ⟨he, n, hm.symm⟩

section
variable {n d n0 d0 : Int} {B : Nat} {w : World}
theorem narrow_first {later : Bool} (c0 : w.cell? ⟨B, 0, none⟩ = some (.int .i64 n0)) (c1 : w.cell? ⟨B, 1, none⟩ = some (.int .i64 d0)) (c2 : w.cell? ⟨B, 2, none⟩ = some (.bool false))
    (f0 : w.frozen? ⟨B, 0, none⟩ = false) (f1 : w.frozen? ⟨B, 1, none⟩ = false) (f2 : w.frozen? ⟨B, 2, none⟩ = false) :
    Calls Try.prog 144 #[.pointer (some ⟨B, 0, none⟩), .int .i64 n, .int .i64 d, .bool later] w fun e w' =>
      e = .returned (.tuple #[]) ∧ ∃ k, w' = (mset w B n d).drewN k := by
  go_enter Try.func144, Try.ntmps144
  go_wp2
  go_end0
  exact ⟨rfl, 0, rfl⟩

variable (c0 : w.cell? ⟨B, 0, none⟩ = some (.int .i64 n0)) (c1 : w.cell? ⟨B, 1, none⟩ = some (.int .i64 d0)) (c2 : w.cell? ⟨B, 2, none⟩ = some (.bool true))
    (f0 : w.frozen? ⟨B, 0, none⟩ = false) (f1 : w.frozen? ⟨B, 1, none⟩ = false) (f2 : w.frozen? ⟨B, 2, none⟩ = false)
    (hn : -9223372036854775808 ≤ n ∧ n ≤ 9223372036854775807) (hd : 0 < d ∧ d ≤ 9223372036854775807) (hn0 : -9223372036854775808 ≤ n0 ∧ n0 ≤ 9223372036854775807) (hd0 : 0 < d0 ∧ d0 ≤ 9223372036854775807)
include c0 c1 c2 f0 f1 f2 hn hd hn0 hd0
theorem narrow_to_keep (h : 0 ≤ cmpF n d n0 d0) :
    Calls Try.prog 144 #[.pointer (some ⟨B, 0, none⟩), .int .i64 n, .int .i64 d, .bool false] w fun e w' =>
      e = .returned (.tuple #[]) ∧ ∃ k, w' = w.drewN k := by
  go_enter Try.func144, Try.ntmps144
  go_wp2
  go_quiet ((go_at_call 101; exact quiet_left (compareFractions_any _ _ _ _ _ hn hd hn0 hd0)))
  go_wp2
  exact bodyPost_ret (results_none rfl _ _ _) rfl ⟨rfl, _, rfl⟩
theorem narrow_to_set (h : cmpF n d n0 d0 < 0) :
    Calls Try.prog 144 #[.pointer (some ⟨B, 0, none⟩), .int .i64 n, .int .i64 d, .bool false] w fun e w' =>
      e = .returned (.tuple #[]) ∧ ∃ k, w' = (mset w B n d).drewN k := by
  go_enter Try.func144, Try.ntmps144
  go_wp2
  go_quiet ((go_at_call 101; exact quiet_left (compareFractions_any _ _ _ _ _ hn hd hn0 hd0)))
  go_wp2
  go_end0
  exact ⟨rfl, _, rfl⟩
theorem narrow_from_keep (h : cmpF n d n0 d0 ≤ 0) :
    Calls Try.prog 144 #[.pointer (some ⟨B, 0, none⟩), .int .i64 n, .int .i64 d, .bool true] w fun e w' =>
      e = .returned (.tuple #[]) ∧ ∃ k, w' = w.drewN k := by
  go_enter Try.func144, Try.ntmps144
  go_wp2
  go_quiet ((go_at_call 101; exact quiet_left (compareFractions_any _ _ _ _ _ hn hd hn0 hd0)))
  go_wp2
  exact bodyPost_ret (results_none rfl _ _ _) rfl ⟨rfl, _, rfl⟩
theorem narrow_from_set (h : 0 < cmpF n d n0 d0) :
    Calls Try.prog 144 #[.pointer (some ⟨B, 0, none⟩), .int .i64 n, .int .i64 d, .bool true] w fun e w' =>
      e = .returned (.tuple #[]) ∧ ∃ k, w' = (mset w B n d).drewN k := by
  go_enter Try.func144, Try.ntmps144
  go_wp2
  go_quiet ((go_at_call 101; exact quiet_left (compareFractions_any _ _ _ _ _ hn hd hn0 hd0)))
  go_wp2
  go_end0
  exact ⟨rfl, _, rfl⟩
end
end Go.Proofs.Ytnenlgaafiifpaa
