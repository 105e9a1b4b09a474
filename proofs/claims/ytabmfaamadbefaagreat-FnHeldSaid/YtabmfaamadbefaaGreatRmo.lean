/- Several texts in one: Kq, Spo, Rmo. Each says its own conditions. -/
import Derived.Test.YtabmfaamadbefaaGreatKo
/- Contracts of next and NextSpot, of the program and of the reference. No condition but that the arguments are ints. -/
set_option linter.unusedVariables false
set_option linter.unusedSimpArgs false
set_option linter.unusedSectionVars false
namespace Go.Proofs.YtabmfaamadbefaaGreat
open Go.RowKit
structure MapBd2 (a b e f q x y d : Int) : Prop where
  p1 : -100000000000000 ≤ a * x ∧ a * x ≤ 100000000000000
  p2 : -100000000000000 ≤ b * y ∧ b * y ≤ 100000000000000
  p3 : -100000000000000 ≤ e * x ∧ e * x ≤ 100000000000000
  p4 : -100000000000000 ≤ f * y ∧ f * y ≤ 100000000000000
  p5 : -100000000000 ≤ q * d ∧ q * d ≤ 100000000000
set_option maxHeartbeats 2000000 in
theorem mapped_val {a b e f q x yy d : Int} {A : Option Addr} {c : Nat} {w : World} (R : RI w A [a, b, e, f]) (M : MapBd2 a b e f q x yy d) :
    Calls Tryz.prog 102 #[.agg #[.int .i64 x, .int .i64 yy, .int .i64 d], .slice A 4 c, .int .i64 q] w fun en w' => en = .returned (.tuple #[.int .i64 (a * x + b * yy), .int .i64 (e * x + f * yy), .int .i64 (q * d)]) ∧ Below w.heap.size w w' := by
  obtain ⟨g, o, rfl, hg, c0, c1, c2, c3⟩ := R.four
  obtain ⟨p1, p2, p3, p4, p5⟩ := M
  clear R
  go_enter Tryz.func102, Tryz.ntmps102
  go_wp2
  ((first | (with_reducible refine wp_region_calm2 (by kernel_rfl) (by kernel_rfl) ?_) | refine wp_region_calm (by kernel_rfl) (by kernel_rfl) ?_); (repeat (go_big_quiet_step (first | fail))); refine wpQuiet_nil ?_; rintro _ ⟨y, rfl⟩)
  go_wp2
  refine bodyPost_ret (v := .tuple #[.int .i64 (a * x + b * yy), .int .i64 (e * x + f * yy), .int .i64 (q * d)]) (by simp [results, Tryz.results102, go_sem]) rfl ⟨rfl, (by repeat (first | exact bR | refine bO ?_ | refine bA ?_ | refine bS ?_ | refine bD ?_ | refine bN ?_))⟩
theorem isDriven_any {n d : Int} {v : Bool} {w : World} (h : Hid ((ratioOk n d && inR n (-1000 * d) (1000 * d)) = v)) (hn : -9223372036854775808 ≤ n ∧ n ≤ 9223372036854775807) (hd : -9223372036854775808 ≤ d ∧ d ≤ 9223372036854775807) :
    Calls Tryz.prog 80 #[.agg #[.int .i64 n, .int .i64 d]] w fun e w' => e = .returned (.bool v) ∧ Below w.heap.size w w' := by
  have h' := h.out
  clear h
  cases hq : ratioOk n d with
  | false =>
    rw [hq, Bool.false_and] at h'
    subst h'
    go_enter Tryz.func80, Tryz.ntmps80
    go_wp2_with (first | (go_at_call 64; (first | (with_reducible refine (calls_ov2 (impl_RatioOk_eq hq (by omega) (by omega))).mono ?_) | refine (calls_ov (impl_RatioOk_eq hq (by omega) (by omega))).mono ?_); rintro e w' ⟨rfl, x, rfl⟩))
    go_ret
    exact ⟨rfl, (by repeat (first | exact bR | refine bO ?_ | refine bA ?_ | refine bS ?_ | refine bD ?_ | refine bN ?_))⟩
  | true =>
    rw [hq, Bool.true_and] at h'
    have q := ratioOk_bd hq
    go_enter Tryz.func80, Tryz.ntmps80
    go_wp2_with (first | (go_at_call 64; (first | (with_reducible refine (calls_ov2 (impl_RatioOk_eq hq (by omega) (by omega))).mono ?_) | refine (calls_ov (impl_RatioOk_eq hq (by omega) (by omega))).mono ?_); rintro e w' ⟨rfl, x, rfl⟩) | (go_at_call 60; refine (inRange_eq h').mono ?_; rintro e w' ⟨rfl, rfl⟩))
    go_ret
    exact ⟨rfl, (by repeat (first | exact bR | refine bO ?_ | refine bA ?_ | refine bS ?_ | refine bD ?_ | refine bN ?_))⟩

structure SpotB (x y d : Int) : Prop where
  x : -9223372036854775808 ≤ x ∧ x ≤ 9223372036854775807
  y : -9223372036854775808 ≤ y ∧ y ≤ 9223372036854775807
  d : -9223372036854775808 ≤ d ∧ d ≤ 9223372036854775807
def nextOk (x y d n u x' y' d' : Int) : Bool := spotOk x y d && spotOk x' y' d' && decide (d ≤ 100000) && decide (d' ≤ 1000) && decide (u ≤ 1000) && (ratioOk n u && inR n (-1000 * u) (1000 * u))
def nextV (r : RoomV) (x y d n u x' y' d' : Int) : P3 × Bool :=
  spotOf (((r.m.getD 0 0 * x + r.m.getD 1 0 * y) * u + r.bx * n * (r.q * d)) * d' + x' * (r.q * d * u)) (((r.m.getD 2 0 * x + r.m.getD 3 0 * y) * u + r.by_ * n * (r.q * d)) * d' + y' * (r.q * d * u)) (r.q * d * u * d')
def nextT (r : RoomV) (x y d n u x' y' d' : Int) : P3 × Bool := if nextOk x y d n u x' y' d' = true then nextV r x y d n u x' y' d' else ((0, 0, 0), false)
def nextR (r : RoomV) (x y d n u x' y' d' : Int) : P3 × Bool := if roomOk r = true then nextT r x y d n u x' y' d' else ((0, 0, 0), false)
structure NextBd (a b e f q bx bY x y d n u x' y' d' : Int) : Prop where
  M : MapBd2 a b e f q x y d
  X : -4000000000 ≤ a * x + b * y ∧ a * x + b * y ≤ 4000000000
  Y : -4000000000 ≤ e * x + f * y ∧ e * x + f * y ≤ 4000000000
  D : 1 ≤ q * d ∧ q * d ≤ 2000000
  xu : -4000000000000 ≤ (a * x + b * y) * u ∧ (a * x + b * y) * u ≤ 4000000000000
  yu : -4000000000000 ≤ (e * x + f * y) * u ∧ (e * x + f * y) * u ≤ 4000000000000
  bn : -100000000 ≤ bx * n ∧ bx * n ≤ 100000000
  cn : -100000000 ≤ bY * n ∧ bY * n ≤ 100000000
  bd : -200000000000000 ≤ bx * n * (q * d) ∧ bx * n * (q * d) ≤ 200000000000000
  cd : -200000000000000 ≤ bY * n * (q * d) ∧ bY * n * (q * d) ≤ 200000000000000
  du : 1 ≤ q * d * u ∧ q * d * u ≤ 2000000000
  xt : -204000000000000000 ≤ ((a * x + b * y) * u + bx * n * (q * d)) * d' ∧ ((a * x + b * y) * u + bx * n * (q * d)) * d' ≤ 204000000000000000
  yt : -204000000000000000 ≤ ((e * x + f * y) * u + bY * n * (q * d)) * d' ∧ ((e * x + f * y) * u + bY * n * (q * d)) * d' ≤ 204000000000000000
  tx : -2000000000000000 ≤ x' * (q * d * u) ∧ x' * (q * d * u) ≤ 2000000000000000
  ty : -2000000000000000 ≤ y' * (q * d * u) ∧ y' * (q * d * u) ≤ 2000000000000000
  dt : 1 ≤ q * d * u * d' ∧ q * d * u * d' ≤ 2000000000000
  hd' : 1 ≤ d' ∧ d' ≤ 1000
  hu : 1 ≤ u ∧ u ≤ 1000
  xs : -4000000000000 ≤ (a * x + b * y) * d' ∧ (a * x + b * y) * d' ≤ 4000000000000
  ys : -4000000000000 ≤ (e * x + f * y) * d' ∧ (e * x + f * y) * d' ≤ 4000000000000
  txs : -2000000000000 ≤ x' * (q * d) ∧ x' * (q * d) ≤ 2000000000000
  tys : -2000000000000 ≤ y' * (q * d) ∧ y' * (q * d) ≤ 2000000000000
  ds : 1 ≤ q * d * d' ∧ q * d * d' ≤ 2000000000
theorem mul_pos1 {x y A B : Int} (hx : 1 ≤ x ∧ x ≤ A) (hy : 1 ≤ y ∧ y ≤ B) : 1 ≤ x * y ∧ x * y ≤ A * B := by
  have h1 := Int.mul_pos (show 0 < x by omega) (show 0 < y by omega)
  have h2 := mul_bd (x := x) (y := y) (A := A) (B := B) (by omega) (by omega)
  omega
theorem next_bd {r : RoomV} {x y d n u x' y' d' : Int} (P : RoomP r) (h : nextOk x y d n u x' y' d' = true) : ∃ a b e f, r.m = [a, b, e, f] ∧ NextBd a b e f r.q r.bx r.by_ x y d n u x' y' d' := by
  obtain ⟨_, a, b, e, f, hm, M, _⟩ := turnOk_parts P.tk
  refine ⟨a, b, e, f, hm, ?_⟩
  have ba := M.ba
  have bb := M.bb
  have be := M.be
  have bf := M.bf
  have bq := M.bq
  have bx := P.bx
  have bY := P.by_
  unfold nextOk spotOk at h
  simp only [Bool.and_eq_true, inR_iff, decide_eq_true_eq] at h
  obtain ⟨⟨⟨⟨⟨⟨⟨⟨s1, s2⟩, s3⟩, _⟩, ⟨⟨t1, t2⟩, t3⟩, _⟩, h3⟩, h4⟩, h5⟩, h6, h7⟩ := h
  have hu := (ratioOk_bd h6).1
  have x1 : -100000000 ≤ x ∧ x ≤ 100000000 := by omega
  have y1 : -100000000 ≤ y ∧ y ≤ 100000000 := by omega
  have xt : -1000000 ≤ x' ∧ x' ≤ 1000000 := by omega
  have yt : -1000000 ≤ y' ∧ y' ≤ 1000000 := by omega
  have n1 : -1000000 ≤ n ∧ n ≤ 1000000 := by omega
  have p1 := mul_bd (x := a) (y := x) (A := 20) (B := 100000000) ba x1
  have p2 := mul_bd (x := b) (y := y) (A := 20) (B := 100000000) bb y1
  have p3 := mul_bd (x := e) (y := x) (A := 20) (B := 100000000) be x1
  have p4 := mul_bd (x := f) (y := y) (A := 20) (B := 100000000) bf y1
  have D := mul_pos1 (x := r.q) (y := d) (A := 20) (B := 100000) (by omega) (by omega)
  have X : -4000000000 ≤ a * x + b * y ∧ a * x + b * y ≤ 4000000000 := by omega
  have Y : -4000000000 ≤ e * x + f * y ∧ e * x + f * y ≤ 4000000000 := by omega
  have xu := mul_bd (x := a * x + b * y) (y := u) (A := 4000000000) (B := 1000) X (by omega)
  have yu := mul_bd (x := e * x + f * y) (y := u) (A := 4000000000) (B := 1000) Y (by omega)
  have bn := mul_bd (x := r.bx) (y := n) (A := 100) (B := 1000000) bx n1
  have cn := mul_bd (x := r.by_) (y := n) (A := 100) (B := 1000000) bY n1
  have bd := mul_bd (x := r.bx * n) (y := r.q * d) (A := 100000000) (B := 2000000) bn (by omega)
  have cd := mul_bd (x := r.by_ * n) (y := r.q * d) (A := 100000000) (B := 2000000) cn (by omega)
  have du := mul_pos1 (x := r.q * d) (y := u) (A := 2000000) (B := 1000) (by omega) (by omega)
  have k1 := mul_bd (x := (a * x + b * y) * u + r.bx * n * (r.q * d)) (y := d') (A := 204000000000000) (B := 1000) (by omega) (by omega)
  have k2 := mul_bd (x := (e * x + f * y) * u + r.by_ * n * (r.q * d)) (y := d') (A := 204000000000000) (B := 1000) (by omega) (by omega)
  have k3 := mul_bd (x := x') (y := r.q * d * u) (A := 1000000) (B := 2000000000) xt (by omega)
  have k4 := mul_bd (x := y') (y := r.q * d * u) (A := 1000000) (B := 2000000000) yt (by omega)
  have k5 := mul_pos1 (x := r.q * d * u) (y := d') (A := 2000000000) (B := 1000) (by omega) (by omega)
  have k6 := mul_bd (x := a * x + b * y) (y := d') (A := 4000000000) (B := 1000) X (by omega)
  have k7 := mul_bd (x := e * x + f * y) (y := d') (A := 4000000000) (B := 1000) Y (by omega)
  have k8 := mul_bd (x := x') (y := r.q * d) (A := 1000000) (B := 2000000) xt (by omega)
  have k9 := mul_bd (x := y') (y := r.q * d) (A := 1000000) (B := 2000000) yt (by omega)
  have k10 := mul_pos1 (x := r.q * d) (y := d') (A := 2000000) (B := 1000) (by omega) (by omega)
  exact ⟨⟨by omega, by omega, by omega, by omega, by omega⟩, X, Y, by omega, by omega, by omega, by omega, by omega, by omega, by omega, by omega, by omega, by omega, by omega, by omega, by omega, by omega, by omega, by omega, by omega, by omega, by omega, by omega⟩
theorem spotOf_scale {x y d : Int} {g : Nat} (hg : 0 < g) (hd : 0 < d) (h1 : x * (g : Int) ≠ -9223372036854775808) (h2 : y * (g : Int) ≠ -9223372036854775808) (h3 : x ≠ -9223372036854775808) (h4 : y ≠ -9223372036854775808) :
    spotOf (x * (g : Int)) (y * (g : Int)) (d * (g : Int)) = spotOf x y d := by
  have gp : (0 : Int) < (g : Int) := by omega
  have dg := Int.mul_pos hd gp
  unfold spotOf
  have n1 : ¬ (d * (g : Int) ≤ 0 ∨ x * (g : Int) = -9223372036854775808 ∨ y * (g : Int) = -9223372036854775808) := by omega
  have n2 : ¬ (d ≤ 0 ∨ x = -9223372036854775808 ∨ y = -9223372036854775808) := by omega
  rw [if_neg n1, if_neg n2, gcdL3_mul, Int.natAbs_natCast, Int.natCast_mul, Int.mul_ediv_mul_of_pos_left _ _ gp, Int.mul_ediv_mul_of_pos_left _ _ gp, Int.mul_ediv_mul_of_pos_left _ _ gp]

set_option maxRecDepth 100000 in
set_option maxHeartbeats 8000000 in
theorem next_eq {r : RoomV} {x y d n u x' y' d' p1 p2 p3 : Int} {ok : Bool} {A1 A2 A3 : Option Addr} {c1 c2 c3 : Nat} {w : World} (M : RI w A1 r.m) (P : RoomP r) (S : SpotB x y d) (U : SpotB n u 0) (T : SpotB x' y' d') (hr : Hid (nextT r x y d n u x' y' d' = ((p1, p2, p3), ok))) :
    Calls Tryz.prog 72 #[.agg #[.slice A1 r.m.length c1, .int .i64 r.q, .int .i64 r.bx, .int .i64 r.by_, .int .i64 r.lo, .int .i64 r.hi, .slice A2 r.ns.length c2, .slice A3 r.ls.length c3], .agg #[.int .i64 x, .int .i64 y, .int .i64 d], .agg #[.int .i64 n, .int .i64 u], .agg #[.int .i64 x', .int .i64 y', .int .i64 d']] w
      fun en w' => en = .returned (.tuple #[.agg #[.int .i64 p1, .int .i64 p2, .int .i64 p3], .bool ok]) ∧ Below w.heap.size w w' := by
  have h := hr.out
  clear hr
  unfold nextT at h
  obtain ⟨sx, sy, sd⟩ := S
  obtain ⟨ux, uy, _⟩ := U
  obtain ⟨tx, ty, td⟩ := T
  obtain ⟨t1, h1⟩ : ∃ t, spotOk x y d = t := ⟨_, rfl⟩
  obtain ⟨t2, h2⟩ : ∃ t, spotOk x' y' d' = t := ⟨_, rfl⟩
  obtain ⟨t6, h6⟩ : ∃ t, (ratioOk n u && inR n (-1000 * u) (1000 * u)) = t := ⟨_, rfl⟩
  have H1 := Lib.hid h1
  have H2 := Lib.hid h2
  have H6 := Lib.hid h6
  by_cases hk : nextOk x y d n u x' y' d' = true
  · obtain ⟨a, b, e, f, hm, B⟩ := next_bd P hk
    rw [if_pos hk] at h
    unfold nextV at h
    unfold nextOk at hk
    rw [h1, h2, h6] at hk
    simp only [Bool.and_eq_true, decide_eq_true_eq] at hk
    obtain ⟨⟨⟨⟨⟨rfl, rfl⟩, h3⟩, h4⟩, h5⟩, rfl⟩ := hk
    obtain ⟨m, q, bx, bY, lo, hi, ns, ls⟩ := r
    simp only at hm h B M ⊢
    subst hm
    have HS := Lib.hid (show spotOf (((a * x + b * y) * u + bx * n * (q * d)) * d' + x' * (q * d * u)) (((e * x + f * y) * u + bY * n * (q * d)) * d' + y' * (q * d * u)) (q * d * u * d') = ((p1, p2, p3), ok) from h)
    obtain ⟨MB, X, Y, D, xu, yu, bn, cn, bd, cd, du, xt, yt, tx2, ty2, dt, _, hu, _, _, _, _, _⟩ := B
    clear h h1 h2 h6 P
    go_enter Tryz.func72, Tryz.ntmps72
    go_wp2_with (first | (go_at_call 31; (first | (with_reducible refine (calls_ov2 (impl_SpotOk_eq (by first | exact H1.out | exact H2.out) (by omega) (by omega) (by omega))).mono ?_) | refine (calls_ov (impl_SpotOk_eq (by first | exact H1.out | exact H2.out) (by omega) (by omega) (by omega))).mono ?_); rintro e w' ⟨rfl, x, rfl⟩) | (go_at_call 80; (first | (with_reducible refine (calls_ov2 (isDriven_any H6 (by omega) (by omega))).mono ?_) | refine (calls_ov (isDriven_any H6 (by omega) (by omega))).mono ?_); rintro e w' ⟨rfl, x, rfl⟩) | (go_at_call 102; (first | (with_reducible refine (calls_ov2 (mapped_val (M.below (by repeat (first | exact bR | refine bO ?_ | refine bA ?_ | refine bS ?_ | refine bD ?_ | refine bN ?_))) MB)).mono ?_) | refine (calls_ov (mapped_val (M.below (by repeat (first | exact bR | refine bO ?_ | refine bA ?_ | refine bS ?_ | refine bD ?_ | refine bN ?_))) MB)).mono ?_); rintro e w' ⟨rfl, x, rfl⟩) | (go_at_call 108; (first | (with_reducible refine (calls_ov2 (impl_SpotOf_eq HS (by omega) (by omega) (by omega))).mono ?_) | refine (calls_ov (impl_SpotOf_eq HS (by omega) (by omega) (by omega))).mono ?_); rintro e w' ⟨rfl, x, rfl⟩))
    refine bodyPost_ret (v := .tuple #[.agg #[.int .i64 p1, .int .i64 p2, .int .i64 p3], .bool ok]) (by simp [results, Tryz.results72, go_sem]) rfl ⟨rfl, ?_⟩
    (repeat (first | exact bR | refine bO ?_ | refine bA ?_ | refine bS ?_ | refine bD ?_ | refine bN ?_))
  · rw [if_neg hk] at h
    simp at h
    obtain ⟨⟨rfl, rfl, rfl⟩, rfl⟩ := h
    unfold nextOk at hk
    rw [h1, h2, h6] at hk
    have hc : t1 = false ∨ (t1 = true ∧ t2 = false) ∨ (t1 = true ∧ t2 = true ∧ ¬ d ≤ 100000) ∨ (t1 = true ∧ t2 = true ∧ d ≤ 100000 ∧ ¬ d' ≤ 1000) ∨ (t1 = true ∧ t2 = true ∧ d ≤ 100000 ∧ d' ≤ 1000 ∧ ¬ u ≤ 1000) ∨ (t1 = true ∧ t2 = true ∧ d ≤ 100000 ∧ d' ≤ 1000 ∧ u ≤ 1000 ∧ t6 = false) := by
      by_cases q3 : d ≤ 100000 <;> by_cases q4 : d' ≤ 1000 <;> by_cases q5 : u ≤ 1000 <;> cases t1 <;> cases t2 <;> cases t6 <;> simp [q3, q4, q5] at hk ⊢
    clear hk h1 h2 h6 P
    rcases hc with rfl | ⟨rfl, rfl⟩ | ⟨rfl, rfl, q3⟩ | ⟨rfl, rfl, q3, q4⟩ | ⟨rfl, rfl, q3, q4, q5⟩ | ⟨rfl, rfl, q3, q4, q5, rfl⟩
    all_goals
      go_enter Tryz.func72, Tryz.ntmps72
      go_wp2_with (first | (go_at_call 31; (first | (with_reducible refine (calls_ov2 (impl_SpotOk_eq (by first | exact H1.out | exact H2.out) (by omega) (by omega) (by omega))).mono ?_) | refine (calls_ov (impl_SpotOk_eq (by first | exact H1.out | exact H2.out) (by omega) (by omega) (by omega))).mono ?_); rintro e w' ⟨rfl, x, rfl⟩) | (go_at_call 80; (first | (with_reducible refine (calls_ov2 (isDriven_any H6 (by omega) (by omega))).mono ?_) | refine (calls_ov (isDriven_any H6 (by omega) (by omega))).mono ?_); rintro e w' ⟨rfl, x, rfl⟩))
      refine bodyPost_ret (v := .tuple #[.agg #[.int .i64 0, .int .i64 0, .int .i64 0], .bool false]) (by simp [results, Tryz.results72, go_sem]) rfl ⟨rfl, ?_⟩
      (repeat (first | exact bR | refine bO ?_ | refine bA ?_ | refine bS ?_ | refine bD ?_ | refine bN ?_))
set_option maxRecDepth 100000 in
set_option maxHeartbeats 8000000 in
theorem impl_NextSpot_eq {r : RoomV} {x y d n u x' y' d' p1 p2 p3 : Int} {ok : Bool} {A1 A2 A3 : Option Addr} {c1 c2 c3 : Nat} {w : World} (M : RM w r A1 A2 c2 A3 c3) (hs : r.Short) (S : SpotB x y d) (U : SpotB n u 0) (T : SpotB x' y' d') (hr : Hid (nextR r x y d n u x' y' d' = ((p1, p2, p3), ok))) :
    Calls Tryz.prog 42 #[.agg #[.slice A1 r.m.length c1, .int .i64 r.q, .int .i64 r.bx, .int .i64 r.by_, .int .i64 r.lo, .int .i64 r.hi, .slice A2 r.ns.length c2, .slice A3 r.ls.length c3], .agg #[.int .i64 x, .int .i64 y, .int .i64 d], .agg #[.int .i64 n, .int .i64 u], .agg #[.int .i64 x', .int .i64 y', .int .i64 d']] w
      fun en w' => en = .returned (.tuple #[.agg #[.int .i64 p1, .int .i64 p2, .int .i64 p3], .bool ok]) ∧ Below w.heap.size w w' := by
  have h := hr.out
  clear hr
  unfold nextR at h
  obtain ⟨v, hv⟩ : ∃ v, roomOk r = v := ⟨_, rfl⟩
  rw [hv] at h
  have HV := Lib.hid hv
  cases v with
  | false =>
    rw [if_neg (by simp)] at h
    simp at h
    obtain ⟨⟨rfl, rfl, rfl⟩, rfl⟩ := h
    clear hv
    go_enter Tryz.func42, Tryz.ntmps42
    go_wp2_with ((go_at_call 13; (first | (with_reducible refine (calls_ov2 (impl_RoomOk_eq (M.below (by repeat (first | exact bR | refine bO ?_ | refine bA ?_ | refine bS ?_ | refine bD ?_ | refine bN ?_))) hs HV)).mono ?_) | refine (calls_ov (impl_RoomOk_eq (M.below (by repeat (first | exact bR | refine bO ?_ | refine bA ?_ | refine bS ?_ | refine bD ?_ | refine bN ?_))) hs HV)).mono ?_); rintro e w' ⟨rfl, x, rfl⟩))
    refine bodyPost_ret (v := .tuple #[.agg #[.int .i64 0, .int .i64 0, .int .i64 0], .bool false]) (by simp [results, Tryz.results42, go_sem]) rfl ⟨rfl, (by repeat (first | exact bR | refine bO ?_ | refine bA ?_ | refine bS ?_ | refine bD ?_ | refine bN ?_))⟩
  | true =>
    rw [if_pos rfl] at h
    have HR := Lib.hid h
    have HN := Lib.hid (fun W (M : RI W A1 r.m) => next_eq (A2 := A2) (A3 := A3) (c1 := c1) (c2 := c2) (c3 := c3) M (roomOk_parts hv) S U T HR)
    clear hv h S U T
    go_enter Tryz.func42, Tryz.ntmps42
    go_wp2_with (first | (go_at_call 13; (first | (with_reducible refine (calls_ov2 (impl_RoomOk_eq (M.below (by repeat (first | exact bR | refine bO ?_ | refine bA ?_ | refine bS ?_ | refine bD ?_ | refine bN ?_))) hs HV)).mono ?_) | refine (calls_ov (impl_RoomOk_eq (M.below (by repeat (first | exact bR | refine bO ?_ | refine bA ?_ | refine bS ?_ | refine bD ?_ | refine bN ?_))) hs HV)).mono ?_); rintro e w' ⟨rfl, x, rfl⟩) | (go_at_call 72; (first | (with_reducible refine (calls_ov2 (HN.out _ (M.mr.below (by repeat (first | exact bR | refine bO ?_ | refine bA ?_ | refine bS ?_ | refine bD ?_ | refine bN ?_))))).mono ?_) | refine (calls_ov (HN.out _ (M.mr.below (by repeat (first | exact bR | refine bO ?_ | refine bA ?_ | refine bS ?_ | refine bD ?_ | refine bN ?_))))).mono ?_); rintro e w' ⟨rfl, x, rfl⟩))
    refine bodyPost_ret (v := .tuple #[.agg #[.int .i64 p1, .int .i64 p2, .int .i64 p3], .bool ok]) (by simp [results, Tryz.results42, go_sem]) rfl ⟨rfl, ?_⟩
    (repeat (first | exact bR | refine bO ?_ | refine bA ?_ | refine bS ?_ | refine bD ?_ | refine bN ?_))

theorem next_same {X0 Y0 D0 n u x' y' d' bx bY : Int} {g : Nat} {p q s : Int} (hg : 0 < g) (ex : X0 * d' + x' * D0 = p * (g : Int)) (ey : Y0 * d' + y' * D0 = q * (g : Int)) (ed : D0 * d' = s * (g : Int)) :
    (X0 * u + bx * n * D0) * d' + x' * (D0 * u) = (p * u + bx * n * s) * (g : Int) ∧ (Y0 * u + bY * n * D0) * d' + y' * (D0 * u) = (q * u + bY * n * s) * (g : Int) ∧ D0 * u * d' = s * u * (g : Int) := by
  refine ⟨?_, ?_, ?_⟩
  · have : (p * u + bx * n * s) * (g : Int) = u * (p * (g : Int)) + bx * n * (s * (g : Int)) := by grind
    rw [this, ← ex, ← ed]; grind
  · have : (q * u + bY * n * s) * (g : Int) = u * (q * (g : Int)) + bY * n * (s * (g : Int)) := by grind
    rw [this, ← ey, ← ed]; grind
  · have : s * u * (g : Int) = u * (s * (g : Int)) := by grind
    rw [this, ← ed]; grind
end Go.Proofs.YtabmfaamadbefaaGreat
/- Contracts of SpanOk and InSpan in the program and in the reference. Condition: the numbers are ints. -/
set_option linter.unusedSimpArgs false
set_option linter.unusedVariables false
set_option linter.unusedSectionVars false
namespace Go.Proofs.YtabmfaamadbefaaGreat
open Go.RowKit Go.Lib
def isInt (n : Int) : Prop := -9223372036854775808 ≤ n ∧ n ≤ 9223372036854775807
abbrev rat (n d : Int) : Value := .agg #[.int .i64 n, .int .i64 d]
def spanOk (n d m e : Int) : Bool := ratioOk n d && ratioOk m e && decide (ratioCmp n d m e ≤ 0)
def inSpan (n d m e u v : Int) : Bool := spanOk n d m e && ratioOk u v && decide (ratioCmp n d u v ≤ 0) && decide (ratioCmp u v m e ≤ 0)

theorem impl_RatioCmp_s {n d m e : Int} {w : World} {c : Int} (h : Hid (ratioCmp n d m e = c)) (hn : -9223372036854775808 ≤ n ∧ n ≤ 9223372036854775807) (hd : -9223372036854775808 ≤ d ∧ d ≤ 9223372036854775807) (hm : -9223372036854775808 ≤ m ∧ m ≤ 9223372036854775807) (he : -9223372036854775808 ≤ e ∧ e ≤ 9223372036854775807) :
    Calls Tryz.prog 35 #[.agg #[.int .i64 n, .int .i64 d], .agg #[.int .i64 m, .int .i64 e]] w fun e' w' => e' = .returned (.int .i64 c) ∧ Below w.heap.size w w' := by
  obtain rfl := h.out; exact impl_RatioCmp_any n d m e w hn hd hm he
section
variable {n d m e u v : Int}
set_option maxHeartbeats 4000000 in
theorem impl_SpanOk_any (w : World) (hn : -9223372036854775808 ≤ n ∧ n ≤ 9223372036854775807) (hd : -9223372036854775808 ≤ d ∧ d ≤ 9223372036854775807) (hm : -9223372036854775808 ≤ m ∧ m ≤ 9223372036854775807) (he : -9223372036854775808 ≤ e ∧ e ≤ 9223372036854775807) :
    Calls Tryz.prog 34 #[.agg #[.int .i64 n, .int .i64 d, .int .i64 m, .int .i64 e]] w fun e' w' => e' = .returned (.bool (spanOk n d m e)) ∧ Below w.heap.size w w' := by
  have HS := Lib.hid (show (ratioOk n d && ratioOk m e && decide (ratioCmp n d m e ≤ 0)) = spanOk n d m e from rfl)
  obtain ⟨c, hc⟩ : ∃ c, ratioCmp n d m e = c := ⟨_, rfl⟩
  have HC := Lib.hid hc
  clear hc
  rcases chain3 (ratioOk n d) (ratioOk m e) (decide (c ≤ 0)) with h1 | ⟨h1, h2⟩ | ⟨h1, h2, h3⟩ | ⟨h1, h2, h3⟩
  all_goals
    go_enter Tryz.func34, Tryz.ntmps34
    go_wp2_with (first | (go_at_call 64; (first | (with_reducible refine (calls_ov2 (impl_RatioOk_eq (by assumption) (by omega) (by omega))).mono ?_) | refine (calls_ov (impl_RatioOk_eq (by assumption) (by omega) (by omega))).mono ?_); rintro e w' ⟨rfl, x, rfl⟩) | (go_at_call 35; (first | (with_reducible refine (calls_ov2 (impl_RatioCmp_s (by assumption) (by omega) (by omega) (by omega) (by omega))).mono ?_) | refine (calls_ov (impl_RatioCmp_s (by assumption) (by omega) (by omega) (by omega) (by omega))).mono ?_); rintro e w' ⟨rfl, x, rfl⟩))
    go_ret
    refine ⟨ret_bool ?_, (by repeat (first | exact bR | refine bO ?_ | refine bA ?_ | refine bS ?_ | refine bD ?_ | refine bN ?_))⟩
    rw [← HS.out, HC.out, h1]
    (try rw [h2])
    first
    | rfl
    | (simp only [Bool.true_and, Bool.false_and, Bool.and_false]; done)
    | (rw [h3]; rfl)
theorem impl_SpanOk_eq {w : World} {b : Bool} (h : spanOk n d m e = b) (hn : -9223372036854775808 ≤ n ∧ n ≤ 9223372036854775807) (hd : -9223372036854775808 ≤ d ∧ d ≤ 9223372036854775807) (hm : -9223372036854775808 ≤ m ∧ m ≤ 9223372036854775807) (he : -9223372036854775808 ≤ e ∧ e ≤ 9223372036854775807) :
    Calls Tryz.prog 34 #[.agg #[.int .i64 n, .int .i64 d, .int .i64 m, .int .i64 e]] w fun e' w' => e' = .returned (.bool b) ∧ Below w.heap.size w w' := by subst h; exact impl_SpanOk_any w hn hd hm he
end
end Go.Proofs.YtabmfaamadbefaaGreat
/- Contracts of RatioMin, RatioMax and MeetSpans in the program and in the reference. Condition: the numbers are ints. -/
set_option linter.unusedSimpArgs false
set_option linter.unusedVariables false
set_option linter.unusedSectionVars false
namespace Go.Proofs.YtabmfaamadbefaaGreat
open Go.RowKit Go.Lib
def ratMin (n d m e : Int) : Int × Int := if ratioCmp n d m e ≤ 0 then (n, d) else (m, e)
def ratMax (n d m e : Int) : Int × Int := if 0 ≤ ratioCmp n d m e then (n, d) else (m, e)
theorem ratMin_ok {n d m e : Int} (h1 : ratioOk n d = true) (h2 : ratioOk m e = true) : ratioOk (ratMin n d m e).1 (ratMin n d m e).2 = true := by
  unfold ratMin; split <;> assumption
theorem ratMax_ok {n d m e : Int} (h1 : ratioOk n d = true) (h2 : ratioOk m e = true) : ratioOk (ratMax n d m e).1 (ratMax n d m e).2 = true := by
  unfold ratMax; split <;> assumption

theorem ret_agg2 {a b c d : Int} (h : (a, b) = (c, d)) : Ending.returned (.agg #[.int .i64 a, .int .i64 b]) = .returned (.agg #[.int .i64 c, .int .i64 d]) := by
  injection h with h1 h2; rw [h1, h2]

section
variable {n d m e p q : Int}
set_option maxHeartbeats 1000000 in
theorem impl_RatioMin_eq {w : World} (h1 : ratioOk n d = true) (h2 : ratioOk m e = true) (hp : Hid (ratMin n d m e = (p, q))) :
    Calls Tryz.prog 104 #[.agg #[.int .i64 n, .int .i64 d], .agg #[.int .i64 m, .int .i64 e]] w fun e' w' => e' = .returned (.agg #[.int .i64 p, .int .i64 q]) ∧ Below w.heap.size w w' := by
  have q1 := ratioOk_bd h1
  have q2 := ratioOk_bd h2
  obtain ⟨c, hc⟩ : ∃ c, ratioCmp n d m e = c := ⟨_, rfl⟩
  have HC := Lib.hid hc
  by_cases k : c ≤ 0
  · have HP := Lib.hid (show (n, d) = (p, q) by rw [← hp.out]; unfold ratMin; rw [hc, if_pos k])
    clear hc
    go_enter Tryz.func104, Tryz.ntmps104
    go_wp2_with (first | (go_at_call 64; (first | (with_reducible refine (calls_ov2 (impl_RatioOk_eq (by assumption) (by omega) (by omega))).mono ?_) | refine (calls_ov (impl_RatioOk_eq (by assumption) (by omega) (by omega))).mono ?_); rintro e w' ⟨rfl, x, rfl⟩) | (go_at_call 35; (first | (with_reducible refine (calls_ov2 (impl_RatioCmp_s (by assumption) (by omega) (by omega) (by omega) (by omega))).mono ?_) | refine (calls_ov (impl_RatioCmp_s (by assumption) (by omega) (by omega) (by omega) (by omega))).mono ?_); rintro e w' ⟨rfl, x, rfl⟩))
    refine bodyPost_ret (v := .agg #[.int .i64 n, .int .i64 d]) (by simp [results, Tryz.results104, go_sem]) rfl ⟨ret_agg2 HP.out, ?_⟩
    (repeat (first | exact bR | refine bO ?_ | refine bA ?_ | refine bS ?_ | refine bD ?_ | refine bN ?_))
  · have HP := Lib.hid (show (m, e) = (p, q) by rw [← hp.out]; unfold ratMin; rw [hc, if_neg k])
    clear hc
    go_enter Tryz.func104, Tryz.ntmps104
    go_wp2_with (first | (go_at_call 64; (first | (with_reducible refine (calls_ov2 (impl_RatioOk_eq (by assumption) (by omega) (by omega))).mono ?_) | refine (calls_ov (impl_RatioOk_eq (by assumption) (by omega) (by omega))).mono ?_); rintro e w' ⟨rfl, x, rfl⟩) | (go_at_call 35; (first | (with_reducible refine (calls_ov2 (impl_RatioCmp_s (by assumption) (by omega) (by omega) (by omega) (by omega))).mono ?_) | refine (calls_ov (impl_RatioCmp_s (by assumption) (by omega) (by omega) (by omega) (by omega))).mono ?_); rintro e w' ⟨rfl, x, rfl⟩))
    refine bodyPost_ret (v := .agg #[.int .i64 m, .int .i64 e]) (by simp [results, Tryz.results104, go_sem]) rfl ⟨ret_agg2 HP.out, ?_⟩
    (repeat (first | exact bR | refine bO ?_ | refine bA ?_ | refine bS ?_ | refine bD ?_ | refine bN ?_))
set_option maxHeartbeats 1000000 in
theorem impl_RatioMax_eq {w : World} (h1 : ratioOk n d = true) (h2 : ratioOk m e = true) (hp : Hid (ratMax n d m e = (p, q))) :
    Calls Tryz.prog 105 #[.agg #[.int .i64 n, .int .i64 d], .agg #[.int .i64 m, .int .i64 e]] w fun e' w' => e' = .returned (.agg #[.int .i64 p, .int .i64 q]) ∧ Below w.heap.size w w' := by
  have q1 := ratioOk_bd h1
  have q2 := ratioOk_bd h2
  obtain ⟨c, hc⟩ : ∃ c, ratioCmp n d m e = c := ⟨_, rfl⟩
  have HC := Lib.hid hc
  by_cases k : 0 ≤ c
  · have HP := Lib.hid (show (n, d) = (p, q) by rw [← hp.out]; unfold ratMax; rw [hc, if_pos k])
    clear hc
    go_enter Tryz.func105, Tryz.ntmps105
    go_wp2_with (first | (go_at_call 64; (first | (with_reducible refine (calls_ov2 (impl_RatioOk_eq (by assumption) (by omega) (by omega))).mono ?_) | refine (calls_ov (impl_RatioOk_eq (by assumption) (by omega) (by omega))).mono ?_); rintro e w' ⟨rfl, x, rfl⟩) | (go_at_call 35; (first | (with_reducible refine (calls_ov2 (impl_RatioCmp_s (by assumption) (by omega) (by omega) (by omega) (by omega))).mono ?_) | refine (calls_ov (impl_RatioCmp_s (by assumption) (by omega) (by omega) (by omega) (by omega))).mono ?_); rintro e w' ⟨rfl, x, rfl⟩))
    refine bodyPost_ret (v := .agg #[.int .i64 n, .int .i64 d]) (by simp [results, Tryz.results105, go_sem]) rfl ⟨ret_agg2 HP.out, ?_⟩
    (repeat (first | exact bR | refine bO ?_ | refine bA ?_ | refine bS ?_ | refine bD ?_ | refine bN ?_))
  · have HP := Lib.hid (show (m, e) = (p, q) by rw [← hp.out]; unfold ratMax; rw [hc, if_neg k])
    clear hc
    go_enter Tryz.func105, Tryz.ntmps105
    go_wp2_with (first | (go_at_call 64; (first | (with_reducible refine (calls_ov2 (impl_RatioOk_eq (by assumption) (by omega) (by omega))).mono ?_) | refine (calls_ov (impl_RatioOk_eq (by assumption) (by omega) (by omega))).mono ?_); rintro e w' ⟨rfl, x, rfl⟩) | (go_at_call 35; (first | (with_reducible refine (calls_ov2 (impl_RatioCmp_s (by assumption) (by omega) (by omega) (by omega) (by omega))).mono ?_) | refine (calls_ov (impl_RatioCmp_s (by assumption) (by omega) (by omega) (by omega) (by omega))).mono ?_); rintro e w' ⟨rfl, x, rfl⟩))
    refine bodyPost_ret (v := .agg #[.int .i64 m, .int .i64 e]) (by simp [results, Tryz.results105, go_sem]) rfl ⟨ret_agg2 HP.out, ?_⟩
    (repeat (first | exact bR | refine bO ?_ | refine bA ?_ | refine bS ?_ | refine bD ?_ | refine bN ?_))
end
end Go.Proofs.YtabmfaamadbefaaGreat