/- Contracts of isMap, l07Matrix, mapped and MapSpot. Condition: the arguments are ints. -/
import Derived.Test.YtbgdfdibpmfafaaPq
set_option linter.unusedSimpArgs false
set_option linter.unusedVariables false
set_option linter.unusedSectionVars false
namespace Go.Proofs.Ytbgdfdibpmfafaa
open Go.RowKit

structure MapBd (a b e f q x y d : Int) : Prop where
  p1 : -100000000000000 ≤ a * x ∧ a * x ≤ 100000000000000
  p2 : -100000000000000 ≤ b * y ∧ b * y ≤ 100000000000000
  p3 : -100000000000000 ≤ e * x ∧ e * x ≤ 100000000000000
  p4 : -100000000000000 ≤ f * y ∧ f * y ≤ 100000000000000
  p5 : -100000000000 ≤ q * d ∧ q * d ≤ 100000000000

set_option maxHeartbeats 2000000 in
theorem mapped_eq {a b e f q x yy d : Int} {A : Option Addr} {c : Nat} {w : World} (R : RI w A [a, b, e, f]) (M : MapBd a b e f q x yy d) :
    Calls Try.prog 32 #[.agg #[.int .i64 x, .int .i64 yy, .int .i64 d], .slice A 4 c, .int .i64 q] w fun en w' => en = .returned (.tuple #[.int .i64 (a * x + b * yy), .int .i64 (e * x + f * yy), .int .i64 (q * d)]) ∧ Below w.heap.size w w' := by
  obtain ⟨g, o, rfl, hg, c0, c1, c2, c3⟩ := R.four
  obtain ⟨p1, p2, p3, p4, p5⟩ := M
  clear R
  go_enter Try.func32, Try.ntmps32
  go_wp2
  ((first | (with_reducible refine wp_region_calm2 (by kernel_rfl) (by kernel_rfl) ?_) | refine wp_region_calm (by kernel_rfl) (by kernel_rfl) ?_); (repeat (go_big_quiet_step (first | fail))); refine wpQuiet_nil ?_; rintro _ ⟨y, rfl⟩)
  go_wp2
  refine bodyPost_ret (v := .tuple #[.int .i64 (a * x + b * yy), .int .i64 (e * x + f * yy), .int .i64 (q * d)]) (by simp [results, Try.results32, go_sem]) rfl ⟨rfl, (by repeat (first | exact bR | refine bO ?_ | refine bA ?_ | refine bS ?_ | refine bD ?_ | refine bN ?_))⟩

/-- What MapSpot returns. -/
def mapS (x y d : Int) (m : List Int) (q : Int) : P3 × Bool := if spotOk x y d = true ∧ mapOk m q = true then spotOf (m.getD 0 0 * x + m.getD 1 0 * y) (m.getD 2 0 * x + m.getD 3 0 * y) (q * d) else ((0, 0, 0), false)
theorem mapS_good {x y d q : Int} {m : List Int} (hs : spotOk x y d = true) (hm : mapOk m q = true) : ∃ a b e f, m = [a, b, e, f] ∧ MapBd a b e f q x y d := by
  unfold mapOk at hm
  simp only [Bool.and_eq_true, decide_eq_true_eq] at hm
  obtain ⟨⟨h4, hq⟩, hall⟩ := hm
  match m, h4 with
  | [a, b, e, f], _ =>
    simp only [List.all_cons, List.all_nil, Bool.and_true, Bool.and_eq_true, smallI, inR_iff] at hall
    obtain ⟨ha, hb, he, hf⟩ := hall
    have hq := inR_iff.1 hq
    unfold spotOk at hs
    simp only [Bool.and_eq_true, inR_iff] at hs
    obtain ⟨⟨⟨hd, hx⟩, hy⟩, _⟩ := hs
    have bx : -5000000000000 ≤ x ∧ x ≤ 5000000000000 := by omega
    have bY : -5000000000000 ≤ y ∧ y ≤ 5000000000000 := by omega
    exact ⟨a, b, e, f, rfl, mul_bd ha bx, mul_bd hb bY, mul_bd he bx, mul_bd hf bY, by have := mul_bd (x := q) (y := d) (A := 20) (B := 5000000000) (by omega) (by omega); omega⟩

set_option maxRecDepth 100000 in
set_option maxHeartbeats 4000000 in
theorem impl_MapSpot_eq {x y d q : Int} {m : List Int} {r s t : Int} {ok : Bool} {A : Option Addr} {c : Nat} {w : World} (hr : Hid (mapS x y d m q = ((r, s, t), ok))) (R : RI w A m) (hl : m.length ≤ 1048576)
    (hx : -9223372036854775808 ≤ x ∧ x ≤ 9223372036854775807) (hy : -9223372036854775808 ≤ y ∧ y ≤ 9223372036854775807) (hd : -9223372036854775808 ≤ d ∧ d ≤ 9223372036854775807) :
    Calls Try.prog 11 #[.agg #[.int .i64 x, .int .i64 y, .int .i64 d], .slice A m.length c, .int .i64 q] w fun en w' => en = .returned (.tuple #[.agg #[.int .i64 r, .int .i64 s, .int .i64 t], .bool ok]) ∧ Below w.heap.size w w' := by
  have h' := hr.out
  clear hr
  unfold mapS at h'
  cases hs : spotOk x y d with
  | false =>
    rw [if_neg (by simp [hs])] at h'
    simp at h'
    obtain ⟨⟨rfl, rfl, rfl⟩, rfl⟩ := h'
    go_enter Try.func11, Try.ntmps11
    go_wp2_with ((go_at_call 29; (first | (with_reducible refine (calls_ov2 (impl_SpotOk_eq hs hx hy hd)).mono ?_) | refine (calls_ov (impl_SpotOk_eq hs hx hy hd)).mono ?_); rintro e w' ⟨rfl, x, rfl⟩))
    refine bodyPost_ret (v := .tuple #[.agg #[.int .i64 0, .int .i64 0, .int .i64 0], .bool false]) (by simp [results, Try.results11, go_sem]) rfl ⟨rfl, ?_⟩
    (repeat (first | exact bR | refine bO ?_ | refine bA ?_ | refine bS ?_ | refine bD ?_ | refine bN ?_))
  | true =>
    cases hm : mapOk m q with
    | false =>
      rw [if_neg (by simp [hm])] at h'
      simp at h'
      obtain ⟨⟨rfl, rfl, rfl⟩, rfl⟩ := h'
      have HM := Lib.hid hm
      clear hm
      go_enter Try.func11, Try.ntmps11
      go_wp2_with (first | (go_at_call 29; (first | (with_reducible refine (calls_ov2 (impl_SpotOk_eq hs hx hy hd)).mono ?_) | refine (calls_ov (impl_SpotOk_eq hs hx hy hd)).mono ?_); rintro e w' ⟨rfl, x, rfl⟩) | (go_at_call 30; (first | (with_reducible refine (calls_ov2 (isMap_eq (by exact R.below (by repeat (first | exact bR | refine bO ?_ | refine bA ?_ | refine bS ?_ | refine bD ?_ | refine bN ?_))) (by omega) HM)).mono ?_) | refine (calls_ov (isMap_eq (by exact R.below (by repeat (first | exact bR | refine bO ?_ | refine bA ?_ | refine bS ?_ | refine bD ?_ | refine bN ?_))) (by omega) HM)).mono ?_); rintro e w' ⟨rfl, x, rfl⟩))
      refine bodyPost_ret (v := .tuple #[.agg #[.int .i64 0, .int .i64 0, .int .i64 0], .bool false]) (by simp [results, Try.results11, go_sem]) rfl ⟨rfl, ?_⟩
      (repeat (first | exact bR | refine bO ?_ | refine bA ?_ | refine bS ?_ | refine bD ?_ | refine bN ?_))
    | true =>
      rw [if_pos ⟨hs, hm⟩] at h'
      obtain ⟨a, b, e, f, rfl, M⟩ := mapS_good hs hm
      have HM := Lib.hid hm
      have HR := Lib.hid (show spotOf (a * x + b * y) (e * x + f * y) (q * d) = ((r, s, t), ok) from h')
      clear hm h'
      have p1 := M.p1
      have p2 := M.p2
      have p3 := M.p3
      have p4 := M.p4
      have p5 := M.p5
      go_enter Try.func11, Try.ntmps11
      go_wp2_with (first | (go_at_call 29; (first | (with_reducible refine (calls_ov2 (impl_SpotOk_eq hs hx hy hd)).mono ?_) | refine (calls_ov (impl_SpotOk_eq hs hx hy hd)).mono ?_); rintro e w' ⟨rfl, x, rfl⟩) | (go_at_call 30; (first | (with_reducible refine (calls_ov2 (isMap_eq (m := [a, b, e, f]) (by exact R.below (by repeat (first | exact bR | refine bO ?_ | refine bA ?_ | refine bS ?_ | refine bD ?_ | refine bN ?_))) (by simp) HM)).mono ?_) | refine (calls_ov (isMap_eq (m := [a, b, e, f]) (by exact R.below (by repeat (first | exact bR | refine bO ?_ | refine bA ?_ | refine bS ?_ | refine bD ?_ | refine bN ?_))) (by simp) HM)).mono ?_); rintro e w' ⟨rfl, x, rfl⟩) | (go_at_call 32; (first | (with_reducible refine (calls_ov2 (mapped_eq (by exact R.below (by repeat (first | exact bR | refine bO ?_ | refine bA ?_ | refine bS ?_ | refine bD ?_ | refine bN ?_))) M)).mono ?_) | refine (calls_ov (mapped_eq (by exact R.below (by repeat (first | exact bR | refine bO ?_ | refine bA ?_ | refine bS ?_ | refine bD ?_ | refine bN ?_))) M)).mono ?_); rintro e w' ⟨rfl, x, rfl⟩) | (go_at_call 31; (first | (with_reducible refine (calls_ov2 (impl_SpotOf_eq HR (by omega) (by omega) (by omega))).mono ?_) | refine (calls_ov (impl_SpotOf_eq HR (by omega) (by omega) (by omega))).mono ?_); rintro e w' ⟨rfl, x, rfl⟩))
      refine bodyPost_ret (v := .tuple #[.agg #[.int .i64 r, .int .i64 s, .int .i64 t], .bool ok]) (by simp [results, Try.results11, go_sem]) rfl ⟨rfl, ?_⟩
      (repeat (first | exact bR | refine bO ?_ | refine bA ?_ | refine bS ?_ | refine bD ?_ | refine bN ?_))

end Go.Proofs.Ytbgdfdibpmfafaa
