/- Contracts of SpanOk and InSpan in the program and in the reference. Condition: the numbers are ints. -/
import Derived.Test.YtfbfaidblggceaaRc
set_option linter.unusedSimpArgs false
set_option linter.unusedVariables false
set_option linter.unusedSectionVars false
namespace Go.Proofs.Ytfbfaidblggceaa
open Go.RowKit Go.Lib

def isInt (n : Int) : Prop := -9223372036854775808 ≤ n ∧ n ≤ 9223372036854775807
abbrev rat (n d : Int) : Value := .agg #[.int .i64 n, .int .i64 d]
def spanOk (n d m e : Int) : Bool := ratioOk n d && ratioOk m e && decide (ratioCmp n d m e ≤ 0)
def inSpan (n d m e u v : Int) : Bool := spanOk n d m e && ratioOk u v && decide (ratioCmp n d u v ≤ 0) && decide (ratioCmp u v m e ≤ 0)

theorem impl_RatioCmp_eq {n d m e : Int} {w : World} {c : Int} (h : Hid (ratioCmp n d m e = c)) (hn : -9223372036854775808 ≤ n ∧ n ≤ 9223372036854775807) (hd : -9223372036854775808 ≤ d ∧ d ≤ 9223372036854775807) (hm : -9223372036854775808 ≤ m ∧ m ≤ 9223372036854775807) (he : -9223372036854775808 ≤ e ∧ e ≤ 9223372036854775807) :
    Calls Try.prog 40 #[.agg #[.int .i64 n, .int .i64 d], .agg #[.int .i64 m, .int .i64 e]] w fun e' w' => e' = .returned (.int .i64 c) ∧ Below w.heap.size w w' := by
  obtain rfl := h.out; exact impl_RatioCmp_any n d m e w hn hd hm he
theorem spec_RatioCmp_eq {n d m e : Int} {w : World} {c : Int} (h : Hid (ratioCmp n d m e = c)) (hn : -9223372036854775808 ≤ n ∧ n ≤ 9223372036854775807) (hd : -9223372036854775808 ≤ d ∧ d ≤ 9223372036854775807) (hm : -9223372036854775808 ≤ m ∧ m ≤ 9223372036854775807) (he : -9223372036854775808 ≤ e ∧ e ≤ 9223372036854775807) :
    Calls Try.prog 23 #[.agg #[.int .i64 n, .int .i64 d], .agg #[.int .i64 m, .int .i64 e]] w fun e' w' => e' = .returned (.int .i64 c) ∧ Below w.heap.size w w' := by
  obtain rfl := h.out; exact spec_RatioCmp_any n d m e w hn hd hm he

section
variable {n d m e u v : Int}
set_option maxHeartbeats 4000000 in
theorem impl_SpanOk_any (w : World) (hn : -9223372036854775808 ≤ n ∧ n ≤ 9223372036854775807) (hd : -9223372036854775808 ≤ d ∧ d ≤ 9223372036854775807) (hm : -9223372036854775808 ≤ m ∧ m ≤ 9223372036854775807) (he : -9223372036854775808 ≤ e ∧ e ≤ 9223372036854775807) :
    Calls Try.prog 17 #[.agg #[.int .i64 n, .int .i64 d, .int .i64 m, .int .i64 e]] w fun e' w' => e' = .returned (.bool (spanOk n d m e)) ∧ Below w.heap.size w w' := by
  have HS := Lib.hid (show (ratioOk n d && ratioOk m e && decide (ratioCmp n d m e ≤ 0)) = spanOk n d m e from rfl)
  obtain ⟨c, hc⟩ : ∃ c, ratioCmp n d m e = c := ⟨_, rfl⟩
  have HC := Lib.hid hc
  clear hc
  rcases chain3 (ratioOk n d) (ratioOk m e) (decide (c ≤ 0)) with h1 | ⟨h1, h2⟩ | ⟨h1, h2, h3⟩ | ⟨h1, h2, h3⟩
  all_goals
    go_enter Try.func17, Try.ntmps17
    go_wp2_with (first | (go_at_call 41; (first | (with_reducible refine (calls_ov2 (impl_RatioOk_eq (by assumption) (by omega) (by omega))).mono ?_) | refine (calls_ov (impl_RatioOk_eq (by assumption) (by omega) (by omega))).mono ?_); rintro e w' ⟨rfl, x, rfl⟩) | (go_at_call 40; (first | (with_reducible refine (calls_ov2 (impl_RatioCmp_eq (by assumption) (by omega) (by omega) (by omega) (by omega))).mono ?_) | refine (calls_ov (impl_RatioCmp_eq (by assumption) (by omega) (by omega) (by omega) (by omega))).mono ?_); rintro e w' ⟨rfl, x, rfl⟩))
    go_ret
    refine ⟨ret_bool ?_, (by repeat (first | exact bR | refine bO ?_ | refine bA ?_ | refine bS ?_ | refine bD ?_ | refine bN ?_))⟩
    rw [← HS.out, HC.out, h1]
    (try rw [h2])
    first
    | rfl
    | (simp only [Bool.true_and, Bool.false_and, Bool.and_false]; done)
    | (rw [h3]; rfl)
set_option maxHeartbeats 4000000 in
theorem spec_SpanOk_any (w : World) (hn : -9223372036854775808 ≤ n ∧ n ≤ 9223372036854775807) (hd : -9223372036854775808 ≤ d ∧ d ≤ 9223372036854775807) (hm : -9223372036854775808 ≤ m ∧ m ≤ 9223372036854775807) (he : -9223372036854775808 ≤ e ∧ e ≤ 9223372036854775807) :
    Calls Try.prog 22 #[.agg #[.int .i64 n, .int .i64 d, .int .i64 m, .int .i64 e]] w fun e' w' => e' = .returned (.bool (spanOk n d m e)) ∧ Below w.heap.size w w' := by
  have HS := Lib.hid (show (ratioOk n d && ratioOk m e && decide (ratioCmp n d m e ≤ 0)) = spanOk n d m e from rfl)
  obtain ⟨c, hc⟩ : ∃ c, ratioCmp n d m e = c := ⟨_, rfl⟩
  have HC := Lib.hid hc
  clear hc
  rcases chain3 (ratioOk n d) (ratioOk m e) (decide (c ≤ 0)) with h1 | ⟨h1, h2⟩ | ⟨h1, h2, h3⟩ | ⟨h1, h2, h3⟩
  all_goals
    go_enter Try.func22, Try.ntmps22
    go_wp2_with (first | (go_at_call 47; (first | (with_reducible refine (calls_ov2 (spec_RatioOk_eq (by assumption) (by omega) (by omega))).mono ?_) | refine (calls_ov (spec_RatioOk_eq (by assumption) (by omega) (by omega))).mono ?_); rintro e w' ⟨rfl, x, rfl⟩) | (go_at_call 23; (first | (with_reducible refine (calls_ov2 (spec_RatioCmp_eq (by assumption) (by omega) (by omega) (by omega) (by omega))).mono ?_) | refine (calls_ov (spec_RatioCmp_eq (by assumption) (by omega) (by omega) (by omega) (by omega))).mono ?_); rintro e w' ⟨rfl, x, rfl⟩))
    go_ret
    refine ⟨ret_bool ?_, (by repeat (first | exact bR | refine bO ?_ | refine bA ?_ | refine bS ?_ | refine bD ?_ | refine bN ?_))⟩
    rw [← HS.out, HC.out, h1]
    (try rw [h2])
    first
    | rfl
    | (simp only [Bool.true_and, Bool.false_and, Bool.and_false]; done)
    | (rw [h3]; rfl)
theorem impl_SpanOk_eq {w : World} {b : Bool} (h : spanOk n d m e = b) (hn : -9223372036854775808 ≤ n ∧ n ≤ 9223372036854775807) (hd : -9223372036854775808 ≤ d ∧ d ≤ 9223372036854775807) (hm : -9223372036854775808 ≤ m ∧ m ≤ 9223372036854775807) (he : -9223372036854775808 ≤ e ∧ e ≤ 9223372036854775807) :
    Calls Try.prog 17 #[.agg #[.int .i64 n, .int .i64 d, .int .i64 m, .int .i64 e]] w fun e' w' => e' = .returned (.bool b) ∧ Below w.heap.size w w' := by subst h; exact impl_SpanOk_any w hn hd hm he
theorem spec_SpanOk_eq {w : World} {b : Bool} (h : spanOk n d m e = b) (hn : -9223372036854775808 ≤ n ∧ n ≤ 9223372036854775807) (hd : -9223372036854775808 ≤ d ∧ d ≤ 9223372036854775807) (hm : -9223372036854775808 ≤ m ∧ m ≤ 9223372036854775807) (he : -9223372036854775808 ≤ e ∧ e ≤ 9223372036854775807) :
    Calls Try.prog 22 #[.agg #[.int .i64 n, .int .i64 d, .int .i64 m, .int .i64 e]] w fun e' w' => e' = .returned (.bool b) ∧ Below w.heap.size w w' := by subst h; exact spec_SpanOk_any w hn hd hm he
set_option maxHeartbeats 8000000 in
theorem impl_InSpan_any (w : World) (hn : -9223372036854775808 ≤ n ∧ n ≤ 9223372036854775807) (hd : -9223372036854775808 ≤ d ∧ d ≤ 9223372036854775807) (hm : -9223372036854775808 ≤ m ∧ m ≤ 9223372036854775807) (he : -9223372036854775808 ≤ e ∧ e ≤ 9223372036854775807)
    (hu : -9223372036854775808 ≤ u ∧ u ≤ 9223372036854775807) (hv : -9223372036854775808 ≤ v ∧ v ≤ 9223372036854775807) :
    Calls Try.prog 18 #[.agg #[.int .i64 n, .int .i64 d, .int .i64 m, .int .i64 e], .agg #[.int .i64 u, .int .i64 v]] w fun e' w' => e' = .returned (.bool (inSpan n d m e u v)) ∧ Below w.heap.size w w' := by
  have HS := Lib.hid (show (spanOk n d m e && ratioOk u v && decide (ratioCmp n d u v ≤ 0) && decide (ratioCmp u v m e ≤ 0)) = inSpan n d m e u v from rfl)
  obtain ⟨c, hc⟩ : ∃ c, ratioCmp n d u v = c := ⟨_, rfl⟩
  obtain ⟨c', hc'⟩ : ∃ c', ratioCmp u v m e = c' := ⟨_, rfl⟩
  have HC := Lib.hid hc
  have HC' := Lib.hid hc'
  clear hc hc'
  rcases chain4 (spanOk n d m e) (ratioOk u v) (decide (c ≤ 0)) (decide (c' ≤ 0)) with h1 | ⟨h1, h2⟩ | ⟨h1, h2, h3⟩ | ⟨h1, h2, h3, h4⟩ | ⟨h1, h2, h3, h4⟩
  all_goals
    go_enter Try.func18, Try.ntmps18
    go_wp2_with (first | (go_at_call 17; (first | (with_reducible refine (calls_ov2 (impl_SpanOk_eq (by assumption) (by omega) (by omega) (by omega) (by omega))).mono ?_) | refine (calls_ov (impl_SpanOk_eq (by assumption) (by omega) (by omega) (by omega) (by omega))).mono ?_); rintro e w' ⟨rfl, x, rfl⟩) | (go_at_call 41; (first | (with_reducible refine (calls_ov2 (impl_RatioOk_eq (by assumption) (by omega) (by omega))).mono ?_) | refine (calls_ov (impl_RatioOk_eq (by assumption) (by omega) (by omega))).mono ?_); rintro e w' ⟨rfl, x, rfl⟩) | (go_at_call 40; (first | (with_reducible refine (calls_ov2 (impl_RatioCmp_eq (by assumption) (by omega) (by omega) (by omega) (by omega))).mono ?_) | refine (calls_ov (impl_RatioCmp_eq (by assumption) (by omega) (by omega) (by omega) (by omega))).mono ?_); rintro e w' ⟨rfl, x, rfl⟩))
    go_ret
    refine ⟨ret_bool ?_, (by repeat (first | exact bR | refine bO ?_ | refine bA ?_ | refine bS ?_ | refine bD ?_ | refine bN ?_))⟩
    rw [← HS.out, HC.out, HC'.out, h1]
    (try rw [h2])
    (try rw [h3])
    (try rw [h4])
    first
    | rfl
    | (simp only [Bool.true_and, Bool.false_and, Bool.and_false]; done)
set_option maxHeartbeats 8000000 in
theorem spec_InSpan_any (w : World) (hn : -9223372036854775808 ≤ n ∧ n ≤ 9223372036854775807) (hd : -9223372036854775808 ≤ d ∧ d ≤ 9223372036854775807) (hm : -9223372036854775808 ≤ m ∧ m ≤ 9223372036854775807) (he : -9223372036854775808 ≤ e ∧ e ≤ 9223372036854775807)
    (hu : -9223372036854775808 ≤ u ∧ u ≤ 9223372036854775807) (hv : -9223372036854775808 ≤ v ∧ v ≤ 9223372036854775807) :
    Calls Try.prog 46 #[.agg #[.int .i64 n, .int .i64 d, .int .i64 m, .int .i64 e], .agg #[.int .i64 u, .int .i64 v]] w fun e' w' => e' = .returned (.bool (inSpan n d m e u v)) ∧ Below w.heap.size w w' := by
  have HS := Lib.hid (show (spanOk n d m e && ratioOk u v && decide (ratioCmp n d u v ≤ 0) && decide (ratioCmp u v m e ≤ 0)) = inSpan n d m e u v from rfl)
  obtain ⟨c, hc⟩ : ∃ c, ratioCmp n d u v = c := ⟨_, rfl⟩
  obtain ⟨c', hc'⟩ : ∃ c', ratioCmp u v m e = c' := ⟨_, rfl⟩
  have HC := Lib.hid hc
  have HC' := Lib.hid hc'
  clear hc hc'
  rcases chain4 (spanOk n d m e) (ratioOk u v) (decide (c ≤ 0)) (decide (c' ≤ 0)) with h1 | ⟨h1, h2⟩ | ⟨h1, h2, h3⟩ | ⟨h1, h2, h3, h4⟩ | ⟨h1, h2, h3, h4⟩
  all_goals
    go_enter Try.func46, Try.ntmps46
    go_wp2_with (first | (go_at_call 22; (first | (with_reducible refine (calls_ov2 (spec_SpanOk_eq (by assumption) (by omega) (by omega) (by omega) (by omega))).mono ?_) | refine (calls_ov (spec_SpanOk_eq (by assumption) (by omega) (by omega) (by omega) (by omega))).mono ?_); rintro e w' ⟨rfl, x, rfl⟩) | (go_at_call 47; (first | (with_reducible refine (calls_ov2 (spec_RatioOk_eq (by assumption) (by omega) (by omega))).mono ?_) | refine (calls_ov (spec_RatioOk_eq (by assumption) (by omega) (by omega))).mono ?_); rintro e w' ⟨rfl, x, rfl⟩) | (go_at_call 23; (first | (with_reducible refine (calls_ov2 (spec_RatioCmp_eq (by assumption) (by omega) (by omega) (by omega) (by omega))).mono ?_) | refine (calls_ov (spec_RatioCmp_eq (by assumption) (by omega) (by omega) (by omega) (by omega))).mono ?_); rintro e w' ⟨rfl, x, rfl⟩))
    go_ret
    refine ⟨ret_bool ?_, (by repeat (first | exact bR | refine bO ?_ | refine bA ?_ | refine bS ?_ | refine bD ?_ | refine bN ?_))⟩
    rw [← HS.out, HC.out, HC'.out, h1]
    (try rw [h2])
    (try rw [h3])
    (try rw [h4])
    first
    | rfl
    | (simp only [Bool.true_and, Bool.false_and, Bool.and_false]; done)
end
end Go.Proofs.Ytfbfaidblggceaa
