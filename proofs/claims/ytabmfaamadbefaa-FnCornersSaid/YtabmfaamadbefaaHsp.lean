/- Contracts of HasSpot and CanBeKept of both sides. Condition: rows are short. -/
import Derived.Test.YtabmfaamadbefaaHs
set_option linter.unusedVariables false
set_option linter.unusedSimpArgs false
set_option linter.unusedSectionVars false
namespace Go.Proofs.Ytabmfaamadbefaa
open Go.RowKit

structure SpB (x y d : Int) : Prop where
  x : -9223372036854775808 ≤ x ∧ x ≤ 9223372036854775807
  y : -9223372036854775808 ≤ y ∧ y ≤ 9223372036854775807
  d : -9223372036854775808 ≤ d ∧ d ≤ 9223372036854775807

def hasSpotR (ps : List H3) (x y d : Int) : Bool := regionOk ps && spotOk x y d && hasL ps ⟨x, y, d⟩
set_option maxRecDepth 100000 in
set_option maxHeartbeats 8000000 in
theorem impl_HasSpot_eq {p : List H3} {Ap : Option Addr} {cp : Nat} {x1 y1 d1 : Int} {v : Bool} {w : World} (Rp : R3 36 w Ap cp p) (hlp : p.length ≤ 1000000000) (S : SpB x1 y1 d1) (hr : Hid (hasSpotR p x1 y1 d1 = v)) :
    Calls Try.prog 14 #[.agg #[.slice Ap p.length cp], .agg #[.int .i64 x1, .int .i64 y1, .int .i64 d1]] w (fun e w' => e = .returned (.bool v) ∧ Below w.heap.size w w') := by
  obtain ⟨t0, h0⟩ : ∃ t, decide (p.length = 0) = t := ⟨_, rfl⟩
  obtain ⟨t1, h1⟩ : ∃ t, regionOk p = t := ⟨_, rfl⟩
  obtain ⟨t2, h2⟩ : ∃ t, spotOk x1 y1 d1 = t := ⟨_, rfl⟩
  obtain ⟨t3, h3⟩ : ∃ t, hasL p ⟨x1, y1, d1⟩ = t := ⟨_, rfl⟩
  have hv := hr.out
  unfold hasSpotR at hv
  rw [h1, h2, h3] at hv
  have hz : t0 = true → t3 = false := fun e => by
    rw [← h3]
    rw [e, decide_eq_true_eq] at h0
    rw [List.length_eq_zero_iff.1 h0]; rfl
  have H0 := Lib.hid h0
  have H1 := Lib.hid h1
  have H2 := Lib.hid h2
  have HC : t1 = true → t2 = true → Hid (∀ W, R3 36 W Ap cp p → Calls Try.prog 41 #[.agg #[.slice Ap p.length cp], .agg #[.int .i64 x1, .int .i64 y1, .int .i64 d1]] W fun e w' => e = .returned (.bool t3) ∧ Below W.heap.size W w') := fun e1 e2 => Lib.hid (fun W RW => holds_eq (s := ⟨x1, y1, d1⟩) (region_good (h1.trans e1)).1 (h2.trans e2) RW (by have := (region_good (h1.trans e1)).2; omega) (Lib.hid h3))
  clear hr
  have hc : (v = false ∧ (t0 = true ∨ (t0 = false ∧ t2 = false) ∨ (t0 = false ∧ t2 = true ∧ t1 = false))) ∨ (t0 = false ∧ t2 = true ∧ t1 = true ∧ t3 = v) := by
    rw [← hv]
    cases t0 <;> cases t1 <;> cases t2 <;> cases t3 <;> simp at hz ⊢
  clear h0 h1 h2 h3 hz hv
  rcases hc with ⟨rfl, rfl | ⟨rfl, rfl⟩ | ⟨rfl, rfl, rfl⟩⟩ | ⟨rfl, rfl, rfl, rfl⟩
  · clear HC
    go_enter Try.func14, Try.ntmps14
    go_wp2_with (first | (go_at_call 13; (first | (with_reducible refine (calls_ov2 (IsVoid_eq H0)).mono ?_) | refine (calls_ov (IsVoid_eq H0)).mono ?_); rintro e w' ⟨rfl, x, rfl⟩) | (go_at_call 40; (first | (with_reducible refine (calls_ov2 (impl_SpotOk_eq H2.out S.x S.y S.d)).mono ?_) | refine (calls_ov (impl_SpotOk_eq H2.out S.x S.y S.d)).mono ?_); rintro e w' ⟨rfl, x, rfl⟩) | (go_at_call 30; (first | (with_reducible refine (calls_ov2 (impl_RegionOk_eq (Rp.below (by repeat (first | exact bR | refine bO ?_ | refine bA ?_ | refine bS ?_ | refine bD ?_ | refine bN ?_))) hlp H1)).mono ?_) | refine (calls_ov (impl_RegionOk_eq (Rp.below (by repeat (first | exact bR | refine bO ?_ | refine bA ?_ | refine bS ?_ | refine bD ?_ | refine bN ?_))) hlp H1)).mono ?_); rintro e w' ⟨rfl, x, rfl⟩))
    go_ret
    exact ⟨rfl, (by repeat (first | exact bR | refine bO ?_ | refine bA ?_ | refine bS ?_ | refine bD ?_ | refine bN ?_))⟩
  · clear HC
    go_enter Try.func14, Try.ntmps14
    go_wp2_with (first | (go_at_call 13; (first | (with_reducible refine (calls_ov2 (IsVoid_eq H0)).mono ?_) | refine (calls_ov (IsVoid_eq H0)).mono ?_); rintro e w' ⟨rfl, x, rfl⟩) | (go_at_call 40; (first | (with_reducible refine (calls_ov2 (impl_SpotOk_eq H2.out S.x S.y S.d)).mono ?_) | refine (calls_ov (impl_SpotOk_eq H2.out S.x S.y S.d)).mono ?_); rintro e w' ⟨rfl, x, rfl⟩) | (go_at_call 30; (first | (with_reducible refine (calls_ov2 (impl_RegionOk_eq (Rp.below (by repeat (first | exact bR | refine bO ?_ | refine bA ?_ | refine bS ?_ | refine bD ?_ | refine bN ?_))) hlp H1)).mono ?_) | refine (calls_ov (impl_RegionOk_eq (Rp.below (by repeat (first | exact bR | refine bO ?_ | refine bA ?_ | refine bS ?_ | refine bD ?_ | refine bN ?_))) hlp H1)).mono ?_); rintro e w' ⟨rfl, x, rfl⟩))
    go_ret
    exact ⟨rfl, (by repeat (first | exact bR | refine bO ?_ | refine bA ?_ | refine bS ?_ | refine bD ?_ | refine bN ?_))⟩
  · clear HC
    go_enter Try.func14, Try.ntmps14
    go_wp2_with (first | (go_at_call 13; (first | (with_reducible refine (calls_ov2 (IsVoid_eq H0)).mono ?_) | refine (calls_ov (IsVoid_eq H0)).mono ?_); rintro e w' ⟨rfl, x, rfl⟩) | (go_at_call 40; (first | (with_reducible refine (calls_ov2 (impl_SpotOk_eq H2.out S.x S.y S.d)).mono ?_) | refine (calls_ov (impl_SpotOk_eq H2.out S.x S.y S.d)).mono ?_); rintro e w' ⟨rfl, x, rfl⟩) | (go_at_call 30; (first | (with_reducible refine (calls_ov2 (impl_RegionOk_eq (Rp.below (by repeat (first | exact bR | refine bO ?_ | refine bA ?_ | refine bS ?_ | refine bD ?_ | refine bN ?_))) hlp H1)).mono ?_) | refine (calls_ov (impl_RegionOk_eq (Rp.below (by repeat (first | exact bR | refine bO ?_ | refine bA ?_ | refine bS ?_ | refine bD ?_ | refine bN ?_))) hlp H1)).mono ?_); rintro e w' ⟨rfl, x, rfl⟩))
    go_ret
    exact ⟨rfl, (by repeat (first | exact bR | refine bO ?_ | refine bA ?_ | refine bS ?_ | refine bD ?_ | refine bN ?_))⟩
  · replace HC := HC rfl rfl
    go_enter Try.func14, Try.ntmps14
    go_wp2_with (first | (go_at_call 13; (first | (with_reducible refine (calls_ov2 (IsVoid_eq H0)).mono ?_) | refine (calls_ov (IsVoid_eq H0)).mono ?_); rintro e w' ⟨rfl, x, rfl⟩) | (go_at_call 40; (first | (with_reducible refine (calls_ov2 (impl_SpotOk_eq H2.out S.x S.y S.d)).mono ?_) | refine (calls_ov (impl_SpotOk_eq H2.out S.x S.y S.d)).mono ?_); rintro e w' ⟨rfl, x, rfl⟩) | (go_at_call 30; (first | (with_reducible refine (calls_ov2 (impl_RegionOk_eq (Rp.below (by repeat (first | exact bR | refine bO ?_ | refine bA ?_ | refine bS ?_ | refine bD ?_ | refine bN ?_))) hlp H1)).mono ?_) | refine (calls_ov (impl_RegionOk_eq (Rp.below (by repeat (first | exact bR | refine bO ?_ | refine bA ?_ | refine bS ?_ | refine bD ?_ | refine bN ?_))) hlp H1)).mono ?_); rintro e w' ⟨rfl, x, rfl⟩) | (go_at_call 41; (first | (with_reducible refine (calls_ov2 (HC.out _ (by exact Rp.below (by repeat (first | exact bR | refine bO ?_ | refine bA ?_ | refine bS ?_ | refine bD ?_ | refine bN ?_))))).mono ?_) | refine (calls_ov (HC.out _ (by exact Rp.below (by repeat (first | exact bR | refine bO ?_ | refine bA ?_ | refine bS ?_ | refine bD ?_ | refine bN ?_))))).mono ?_); rintro e w' ⟨rfl, x, rfl⟩))
    go_ret
    exact ⟨rfl, (by repeat (first | exact bR | refine bO ?_ | refine bA ?_ | refine bS ?_ | refine bD ?_ | refine bN ?_))⟩

end Go.Proofs.Ytabmfaamadbefaa
