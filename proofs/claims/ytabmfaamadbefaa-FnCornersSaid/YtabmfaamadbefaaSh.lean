/- Contracts of the reference's BeforeAngle, SameDirection and TighterHalf at valid half planes. Condition: they are valid. -/
import Derived.Test.YtabmfaamadbefaaH
import Derived.Test.YtabmfaamadbefaaGeo
set_option linter.unusedSimpArgs false
set_option linter.unusedVariables false
set_option linter.unusedSectionVars false
namespace Go.Proofs.Ytabmfaamadbefaa
open Go.RowKit

theorem dot_same {g h : H3} (ng : NZ g) (nh : NZ h) (d : sameDir g h = true) : 0 < g.a * h.a + g.b * h.b := by
  obtain ⟨ea, eb⟩ := prop_of_sameDir ng nh d
  have pg := size_pos ng
  have ph := size_pos nh
  have hn := nrm_pos nh
  refine pos_of_mul_pos ph ?_
  have e : (g.a * h.a + g.b * h.b) * sizeH h = nrm h * sizeH g := by
    have e1 : (g.a * h.a + g.b * h.b) * sizeH h = (g.a * sizeH h) * h.a + (g.b * sizeH h) * h.b := by grind
    rw [e1, ea, eb]; unfold nrm; grind
  rw [e]
  exact mul_pos' hn pg
theorem dot_opp {g h : H3} (ng : NZ g) (nh : NZ h) (k : cross g h = 0) (d : sameDir g h = false) : g.a * h.a + g.b * h.b < 0 := by
  obtain ⟨ea, eb⟩ := opp_prop ng nh k d
  have pg := size_pos ng
  have ph := size_pos nh
  have hn := nrm_pos ng
  have e : (-(g.a * h.a + g.b * h.b)) * sizeH g = nrm g * sizeH h := by
    have e1 : (-(g.a * h.a + g.b * h.b)) * sizeH g = -((h.a * sizeH g) * g.a + (h.b * sizeH g) * g.b) := by grind
    rw [e1, ea, eb]; unfold nrm; grind
  have := pos_of_mul_pos pg (x := -(g.a * h.a + g.b * h.b)) (by rw [e]; exact mul_pos' hn ph)
  omega
def l1H (h : H3) : Int := max h.a (-h.a) + max h.b (-h.b)
theorem l1_pos {h : H3} (n : NZ h) : 0 < l1H h := by unfold l1H NZ at *; omega
theorem abs_mul {x y s t : Int} (hs : 0 < s) (ht : 0 < t) (e : x * s = y * t) : max x (-x) * s = max y (-y) * t := by
  rcases Int.lt_or_le x 0 with h | h
  · have : y < 0 := by
      rcases Int.lt_or_le y 0 with h2 | h2
      · exact h2
      · have h3 := mul_neg' hs h
        have h4 := Int.mul_nonneg h2 (show 0 ≤ t by omega)
        rw [Int.mul_comm] at h3
        omega
    rw [Int.max_eq_right (by omega), Int.max_eq_right (by omega)]
    grind
  · have : 0 ≤ y := by
      rcases Int.lt_or_le y 0 with h2 | h2
      · have h3 := mul_neg' ht h2
        have h4 := Int.mul_nonneg h (show 0 ≤ s by omega)
        rw [Int.mul_comm] at h3
        omega
      · exact h2
    rw [Int.max_eq_left (by omega), Int.max_eq_left (by omega)]
    exact e
theorem tighter_l1 {g h : H3} (ng : NZ g) (nh : NZ h) (d : sameDir g h = true) : (h.c * l1H g < g.c * l1H h) ↔ (h.c * sizeH g < g.c * sizeH h) := by
  obtain ⟨ea, eb⟩ := prop_of_sameDir ng nh d
  have pg := size_pos ng
  have ph := size_pos nh
  have e : l1H g * sizeH h = l1H h * sizeH g := by
    unfold l1H
    rw [Int.add_mul, Int.add_mul, abs_mul ph pg ea, abs_mul ph pg eb]
  have pl := l1_pos nh
  have e1 : h.c * l1H g * sizeH h = (h.c * sizeH g) * l1H h := by rw [Int.mul_assoc, e]; grind
  have e2 : g.c * l1H h * sizeH h = (g.c * sizeH h) * l1H h := by grind
  constructor
  · intro hh
    have := Int.mul_lt_mul_of_pos_right hh ph
    rw [e1, e2] at this
    exact Int.lt_of_mul_lt_mul_right this (by omega)
  · intro hh
    have := Int.mul_lt_mul_of_pos_right hh pl
    rw [← e1, ← e2] at this
    exact Int.lt_of_mul_lt_mul_right this (by omega)

theorem spec_BeforeAngle_eq {g h : H3} {v : Bool} {w : World} (kg : HOk g) (kh : HOk h) (e : before g h = v) : Calls Try.prog 102 #[.agg #[.int .i64 g.a, .int .i64 g.b, .int .i64 g.c], .agg #[.int .i64 h.a, .int .i64 h.b, .int .i64 h.c]] w fun e w' => e = .returned (.bool v) ∧ Below w.heap.size w w' := by
  have HS := Lib.hid (show (if upB g != upB h then upB g else decide (0 < cross g h)) = v from e)
  have HC := Lib.hid (show g.a * h.b - h.a * g.b = cross g h by unfold cross; grind)
  have p1 := mul_bd kg.ba kh.bb
  have p2 := mul_bd kh.ba kg.bb
  clear e
  cases h1 : upB g <;> cases h2 : upB h
  all_goals
    go_enter Try.func102, Try.ntmps102
    go_wp2_with (first | (go_at_call 87; (first | (with_reducible refine (calls_ov2 (spec_HalfOk_true (by assumption))).mono ?_) | refine (calls_ov (spec_HalfOk_true (by assumption))).mono ?_); rintro e w' ⟨rfl, x, rfl⟩))
    ((first | (with_reducible refine wp_region_calm2 (by kernel_rfl) (by kernel_rfl) ?_) | refine wp_region_calm (by kernel_rfl) (by kernel_rfl) ?_); (repeat (go_big_quiet_step (first | (go_at_call 114; exact calm_below (l04Upper_t (by assumption))) | (go_at_call 114; exact calm_below (l04Upper_f (by assumption)))))); refine wpQuiet_nil ?_; rintro _ ⟨y, rfl⟩)
    go_wp2
    try ((first | (with_reducible refine wp_region_calm2 (by kernel_rfl) (by kernel_rfl) ?_) | refine wp_region_calm (by kernel_rfl) (by kernel_rfl) ?_); (repeat (go_big_quiet_step (first | (go_at_call 114; exact calm_below (l04Upper_t (by assumption))) | (go_at_call 114; exact calm_below (l04Upper_f (by assumption)))))); refine wpQuiet_nil ?_; rintro _ ⟨y, rfl⟩)
    try go_wp2
    go_ret
    exact ⟨ret_bool (by rw [← HS.out, h1, h2]; first | rfl | (rw [← HC.out]; exact decide_eq_decide.2 (by omega))), (by repeat (first | exact bR | refine bO ?_ | refine bA ?_ | refine bS ?_ | refine bD ?_ | refine bN ?_))⟩

theorem spec_SameDirection_eq {g h : H3} {v : Bool} {w : World} (kg : HOk g) (kh : HOk h) (e : sameDir g h = v) : Calls Try.prog 103 #[.agg #[.int .i64 g.a, .int .i64 g.b, .int .i64 g.c], .agg #[.int .i64 h.a, .int .i64 h.b, .int .i64 h.c]] w fun e w' => e = .returned (.bool v) ∧ Below w.heap.size w w' := by
  have p1 := mul_bd kg.ba kh.bb
  have p2 := mul_bd kh.ba kg.bb
  have p3 := mul_bd kg.ba kh.ba
  have p4 := mul_bd kg.bb kh.bb
  have HC := Lib.hid (show g.a * h.b - h.a * g.b = cross g h by unfold cross; grind)
  have d1 := fun x => dot_same kg.nz kh.nz (g := g) (h := h) x
  have d2 := fun x y => dot_opp kg.nz kh.nz (g := g) (h := h) x y
  by_cases hz : cross g h = 0
  · have ez : (g.a * h.b == h.a * g.b) = true := by have := HC.out; simp; omega
    have HD := Lib.hid (show (decide (0 < g.a * h.a + g.b * h.b)) = v by
      cases v with
      | true => simpa using d1 e
      | false => have := d2 hz e; simp; omega)
    clear hz d1 d2 e
    go_enter Try.func103, Try.ntmps103
    go_wp2_with (first | (go_at_call 87; (first | (with_reducible refine (calls_ov2 (spec_HalfOk_true (by assumption))).mono ?_) | refine (calls_ov (spec_HalfOk_true (by assumption))).mono ?_); rintro e w' ⟨rfl, x, rfl⟩))
    go_ret
    exact ⟨ret_bool HD.out, (by repeat (first | exact bR | refine bO ?_ | refine bA ?_ | refine bS ?_ | refine bD ?_ | refine bN ?_))⟩
  · have ez : (g.a * h.b == h.a * g.b) = false := by have := HC.out; simp; omega
    have HD := Lib.hid (show false = v by
      rw [← e]; unfold sameDir; simp [hz])
    clear hz d1 d2 e
    go_enter Try.func103, Try.ntmps103
    go_wp2_with (first | (go_at_call 87; (first | (with_reducible refine (calls_ov2 (spec_HalfOk_true (by assumption))).mono ?_) | refine (calls_ov (spec_HalfOk_true (by assumption))).mono ?_); rintro e w' ⟨rfl, x, rfl⟩))
    go_ret
    exact ⟨ret_bool HD.out, (by repeat (first | exact bR | refine bO ?_ | refine bA ?_ | refine bS ?_ | refine bD ?_ | refine bN ?_))⟩

theorem l1_ite (x : H3) : l1H x = ((if x.a < -x.a then -x.a else x.a) + if x.b < -x.b then -x.b else x.b) := by unfold l1H; omega

set_option maxHeartbeats 2000000 in
theorem spec_TighterHalf_any {g hq : H3} {w : World} (kg : HOk g) (kh : HOk hq) (e : sameDir g hq = true) : Calls Try.prog 104 #[.agg #[.int .i64 g.a, .int .i64 g.b, .int .i64 g.c], .agg #[.int .i64 hq.a, .int .i64 hq.b, .int .i64 hq.c]] w fun e w' => e = .returned (.agg #[.int .i64 (tighter g hq).a, .int .i64 (tighter g hq).b, .int .i64 (tighter g hq).c]) ∧ Below w.heap.size w w' := by
  obtain ⟨ga1, ga2⟩ := kg.ba
  obtain ⟨gb1, gb2⟩ := kg.bb
  obtain ⟨ha1, ha2⟩ := kh.ba
  obtain ⟨hb1, hb2⟩ := kh.bb
  have u := mul_bd (x := hq.c) (y := ((if g.a < -g.a then -g.a else g.a) + if g.b < -g.b then -g.b else g.b)) (A := 100000000) (B := 100000) kh.bc (by rw [← l1_ite]; unfold l1H; omega)
  have v := mul_bd (x := g.c) (y := ((if hq.a < -hq.a then -hq.a else hq.a) + if hq.b < -hq.b then -hq.b else hq.b)) (A := 100000000) (B := 100000) kg.bc (by rw [← l1_ite]; unfold l1H; omega)
  have HS := Lib.hid e
  have HT := Lib.hid (tighter_l1 kg.nz kh.nz e)
  have HL := Lib.hid (show (tighter g hq = hq ∧ hq.c * sizeH g < g.c * sizeH hq) ∨ (tighter g hq = g ∧ ¬ hq.c * sizeH g < g.c * sizeH hq) by unfold tighter; split <;> simp_all)
  clear e
  rcases HL.out with ⟨e1, e2⟩ | ⟨e1, e2⟩
  · rw [e1]
    have hd : hq.c * ((if g.a < -g.a then -g.a else g.a) + if g.b < -g.b then -g.b else g.b) < g.c * ((if hq.a < -hq.a then -hq.a else hq.a) + if hq.b < -hq.b then -hq.b else hq.b) := by rw [← l1_ite, ← l1_ite, HT.out]; exact e2
    clear e1 e2 HL HT
    go_enter Try.func104, Try.ntmps104
    go_wp2_with (first | (go_at_call 103; (first | (with_reducible refine (calls_ov2 (spec_SameDirection_eq kg kh HS.out)).mono ?_) | refine (calls_ov (spec_SameDirection_eq kg kh HS.out)).mono ?_); rintro e w' ⟨rfl, x, rfl⟩))
    all_goals
      exact bodyPost_ret (v := .agg #[.int .i64 hq.a, .int .i64 hq.b, .int .i64 hq.c]) (by simp [results, Try.results104, go_sem]) rfl ⟨rfl, (by repeat (first | exact bR | refine bO ?_ | refine bA ?_ | refine bS ?_ | refine bD ?_ | refine bN ?_))⟩
  · rw [e1]
    have hd : ¬ hq.c * ((if g.a < -g.a then -g.a else g.a) + if g.b < -g.b then -g.b else g.b) < g.c * ((if hq.a < -hq.a then -hq.a else hq.a) + if hq.b < -hq.b then -hq.b else hq.b) := by rw [← l1_ite, ← l1_ite, HT.out]; exact e2
    clear e1 e2 HL HT
    go_enter Try.func104, Try.ntmps104
    go_wp2_with (first | (go_at_call 103; (first | (with_reducible refine (calls_ov2 (spec_SameDirection_eq kg kh HS.out)).mono ?_) | refine (calls_ov (spec_SameDirection_eq kg kh HS.out)).mono ?_); rintro e w' ⟨rfl, x, rfl⟩))
    all_goals
      exact bodyPost_ret (v := .agg #[.int .i64 g.a, .int .i64 g.b, .int .i64 g.c]) (by simp [results, Try.results104, go_sem]) rfl ⟨rfl, (by repeat (first | exact bR | refine bO ?_ | refine bA ?_ | refine bS ?_ | refine bD ?_ | refine bN ?_))⟩
end Go.Proofs.Ytabmfaamadbefaa
