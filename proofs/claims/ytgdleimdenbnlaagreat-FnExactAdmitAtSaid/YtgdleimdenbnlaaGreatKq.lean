/- Contracts of next and NextSpot, of the program and of the reference. No condition but that the arguments are ints. -/
import Derived.Test.YtgdleimdenbnlaaGreatKo
set_option linter.unusedVariables false
set_option linter.unusedSimpArgs false
set_option linter.unusedSectionVars false
namespace Go.Proofs.YtgdleimdenbnlaaGreat
open Go.RowKit

structure MapBd2 (a b e f q x y d : Int) : Prop where
  p1 : -100000000000000 ≤ a * x ∧ a * x ≤ 100000000000000
  p2 : -100000000000000 ≤ b * y ∧ b * y ≤ 100000000000000
  p3 : -100000000000000 ≤ e * x ∧ e * x ≤ 100000000000000
  p4 : -100000000000000 ≤ f * y ∧ f * y ≤ 100000000000000
  p5 : -100000000000 ≤ q * d ∧ q * d ≤ 100000000000
set_option maxHeartbeats 2000000 in
theorem mapped_val {a b e f q x yy d : Int} {A : Option Addr} {c : Nat} {w : World} (R : RI w A [a, b, e, f]) (M : MapBd2 a b e f q x yy d) :
    Calls Tryz.prog 117 #[.agg #[.int .i64 x, .int .i64 yy, .int .i64 d], .slice A 4 c, .int .i64 q] w fun en w' => en = .returned (.tuple #[.int .i64 (a * x + b * yy), .int .i64 (e * x + f * yy), .int .i64 (q * d)]) ∧ Below w.heap.size w w' := by
  obtain ⟨g, o, rfl, hg, c0, c1, c2, c3⟩ := R.four
  obtain ⟨p1, p2, p3, p4, p5⟩ := M
  clear R
  go_enter Tryz.func117, Tryz.ntmps117
  go_wp2
  ((first | (with_reducible refine wp_region_calm2 (by kernel_rfl) (by kernel_rfl) ?_) | refine wp_region_calm (by kernel_rfl) (by kernel_rfl) ?_); (repeat (go_big_quiet_step (first | fail))); refine wpQuiet_nil ?_; rintro _ ⟨y, rfl⟩)
  go_wp2
  refine bodyPost_ret (v := .tuple #[.int .i64 (a * x + b * yy), .int .i64 (e * x + f * yy), .int .i64 (q * d)]) (by simp [results, Tryz.results117, go_sem]) rfl ⟨rfl, (by repeat (first | exact Below.refl _ _ | refine below_ov _ _ ?_ (by first | omega | (simp [ov_size] <;> omega)) | refine Below.alloc ?_ (by first | omega | (simp [ov_size] <;> omega)) _ | refine Below.setCell ?_ (by first | omega | (simp [ov_size] <;> omega)) _ | refine Below.drew ?_ | refine below_drewN ?_ _))⟩
theorem isDriven_any {n d : Int} {v : Bool} {w : World} (h : Hid ((ratioOk n d && inR n (-1000 * d) (1000 * d)) = v)) (hn : -9223372036854775808 ≤ n ∧ n ≤ 9223372036854775807) (hd : -9223372036854775808 ≤ d ∧ d ≤ 9223372036854775807) :
    Calls Tryz.prog 116 #[.agg #[.int .i64 n, .int .i64 d]] w fun e w' => e = .returned (.bool v) ∧ Below w.heap.size w w' := by
  have h' := h.out
  clear h
  cases hq : ratioOk n d with
  | false =>
    rw [hq, Bool.false_and] at h'
    subst h'
    go_enter Tryz.func116, Tryz.ntmps116
    go_wp2_with (first | (go_at_call 105; (first | (with_reducible refine (calls_ov2 (impl_RatioOk_eq hq (by omega) (by omega))).mono ?_) | refine (calls_ov (impl_RatioOk_eq hq (by omega) (by omega))).mono ?_); rintro e w' ⟨rfl, x, rfl⟩))
    go_ret
    exact ⟨rfl, (by repeat (first | exact Below.refl _ _ | refine below_ov _ _ ?_ (by first | omega | (simp [ov_size] <;> omega)) | refine Below.alloc ?_ (by first | omega | (simp [ov_size] <;> omega)) _ | refine Below.setCell ?_ (by first | omega | (simp [ov_size] <;> omega)) _ | refine Below.drew ?_ | refine below_drewN ?_ _))⟩
  | true =>
    rw [hq, Bool.true_and] at h'
    have q := ratioOk_bd hq
    go_enter Tryz.func116, Tryz.ntmps116
    go_wp2_with (first | (go_at_call 105; (first | (with_reducible refine (calls_ov2 (impl_RatioOk_eq hq (by omega) (by omega))).mono ?_) | refine (calls_ov (impl_RatioOk_eq hq (by omega) (by omega))).mono ?_); rintro e w' ⟨rfl, x, rfl⟩) | (go_at_call 93; refine (inRange_eq h').mono ?_; rintro e w' ⟨rfl, rfl⟩))
    go_ret
    exact ⟨rfl, (by repeat (first | exact Below.refl _ _ | refine below_ov _ _ ?_ (by first | omega | (simp [ov_size] <;> omega)) | refine Below.alloc ?_ (by first | omega | (simp [ov_size] <;> omega)) _ | refine Below.setCell ?_ (by first | omega | (simp [ov_size] <;> omega)) _ | refine Below.drew ?_ | refine below_drewN ?_ _))⟩

structure SpotB (x y d : Int) : Prop where
  x : -9223372036854775808 ≤ x ∧ x ≤ 9223372036854775807
  y : -9223372036854775808 ≤ y ∧ y ≤ 9223372036854775807
  d : -9223372036854775808 ≤ d ∧ d ≤ 9223372036854775807
def nextOk (x y d n u x' y' d' : Int) : Bool := spotOk x y d && spotOk x' y' d' && decide (d ≤ 100000) && decide (d' ≤ 1000) && decide (u ≤ 1000) && (ratioOk n u && inR n (-1000 * u) (1000 * u))
def nextV (r : RoomV) (x y d n u x' y' d' : Int) : P3 × Bool :=
  spotOf (((r.m.getD 0 0 * x + r.m.getD 1 0 * y) * u + r.bx * n * (r.q * d)) * d' + x' * (r.q * d * u)) (((r.m.getD 2 0 * x + r.m.getD 3 0 * y) * u + r.by_ * n * (r.q * d)) * d' + y' * (r.q * d * u)) (r.q * d * u * d')
def nextT (r : RoomV) (x y d n u x' y' d' : Int) : P3 × Bool := if nextOk x y d n u x' y' d' = true then nextV r x y d n u x' y' d' else ((0, 0, 0), false)
def nextR (r : RoomV) (x y d n u x' y' d' : Int) : P3 × Bool := if roomOk r = true then nextT r x y d n u x' y' d' else ((0, 0, 0), false)
structure NextBd (a b e f q bx bY x y d n u x' y' d' : Int) : Prop where
  M : MapBd2 a b e f q x y d
  X : -4000000000 ≤ a * x + b * y ∧ a * x + b * y ≤ 4000000000
  Y : -4000000000 ≤ e * x + f * y ∧ e * x + f * y ≤ 4000000000
  D : 1 ≤ q * d ∧ q * d ≤ 2000000
  xu : -4000000000000 ≤ (a * x + b * y) * u ∧ (a * x + b * y) * u ≤ 4000000000000
  yu : -4000000000000 ≤ (e * x + f * y) * u ∧ (e * x + f * y) * u ≤ 4000000000000
  bn : -100000000 ≤ bx * n ∧ bx * n ≤ 100000000
  cn : -100000000 ≤ bY * n ∧ bY * n ≤ 100000000
  bd : -200000000000000 ≤ bx * n * (q * d) ∧ bx * n * (q * d) ≤ 200000000000000
  cd : -200000000000000 ≤ bY * n * (q * d) ∧ bY * n * (q * d) ≤ 200000000000000
  du : 1 ≤ q * d * u ∧ q * d * u ≤ 2000000000
  xt : -204000000000000000 ≤ ((a * x + b * y) * u + bx * n * (q * d)) * d' ∧ ((a * x + b * y) * u + bx * n * (q * d)) * d' ≤ 204000000000000000
  yt : -204000000000000000 ≤ ((e * x + f * y) * u + bY * n * (q * d)) * d' ∧ ((e * x + f * y) * u + bY * n * (q * d)) * d' ≤ 204000000000000000
  tx : -2000000000000000 ≤ x' * (q * d * u) ∧ x' * (q * d * u) ≤ 2000000000000000
  ty : -2000000000000000 ≤ y' * (q * d * u) ∧ y' * (q * d * u) ≤ 2000000000000000
  dt : 1 ≤ q * d * u * d' ∧ q * d * u * d' ≤ 2000000000000
  hd' : 1 ≤ d' ∧ d' ≤ 1000
  hu : 1 ≤ u ∧ u ≤ 1000
  xs : -4000000000000 ≤ (a * x + b * y) * d' ∧ (a * x + b * y) * d' ≤ 4000000000000
  ys : -4000000000000 ≤ (e * x + f * y) * d' ∧ (e * x + f * y) * d' ≤ 4000000000000
  txs : -2000000000000 ≤ x' * (q * d) ∧ x' * (q * d) ≤ 2000000000000
  tys : -2000000000000 ≤ y' * (q * d) ∧ y' * (q * d) ≤ 2000000000000
  ds : 1 ≤ q * d * d' ∧ q * d * d' ≤ 2000000000
theorem mul_pos1 {x y A B : Int} (hx : 1 ≤ x ∧ x ≤ A) (hy : 1 ≤ y ∧ y ≤ B) : 1 ≤ x * y ∧ x * y ≤ A * B := by
  have h1 := Int.mul_pos (show 0 < x by omega) (show 0 < y by omega)
  have h2 := mul_bd (x := x) (y := y) (A := A) (B := B) (by omega) (by omega)
  omega
theorem next_bd {r : RoomV} {x y d n u x' y' d' : Int} (P : RoomP r) (h : nextOk x y d n u x' y' d' = true) : ∃ a b e f, r.m = [a, b, e, f] ∧ NextBd a b e f r.q r.bx r.by_ x y d n u x' y' d' := by
  obtain ⟨_, a, b, e, f, hm, M, _⟩ := turnOk_parts P.tk
  refine ⟨a, b, e, f, hm, ?_⟩
  have ba := M.ba
  have bb := M.bb
  have be := M.be
  have bf := M.bf
  have bq := M.bq
  have bx := P.bx
  have bY := P.by_
  unfold nextOk spotOk at h
  simp only [Bool.and_eq_true, inR_iff, decide_eq_true_eq] at h
  obtain ⟨⟨⟨⟨⟨⟨⟨⟨s1, s2⟩, s3⟩, _⟩, ⟨⟨t1, t2⟩, t3⟩, _⟩, h3⟩, h4⟩, h5⟩, h6, h7⟩ := h
  have hu := (ratioOk_bd h6).1
  have x1 : -100000000 ≤ x ∧ x ≤ 100000000 := by omega
  have y1 : -100000000 ≤ y ∧ y ≤ 100000000 := by omega
  have xt : -1000000 ≤ x' ∧ x' ≤ 1000000 := by omega
  have yt : -1000000 ≤ y' ∧ y' ≤ 1000000 := by omega
  have n1 : -1000000 ≤ n ∧ n ≤ 1000000 := by omega
  have p1 := mul_bd (x := a) (y := x) (A := 20) (B := 100000000) ba x1
  have p2 := mul_bd (x := b) (y := y) (A := 20) (B := 100000000) bb y1
  have p3 := mul_bd (x := e) (y := x) (A := 20) (B := 100000000) be x1
  have p4 := mul_bd (x := f) (y := y) (A := 20) (B := 100000000) bf y1
  have D := mul_pos1 (x := r.q) (y := d) (A := 20) (B := 100000) (by omega) (by omega)
  have X : -4000000000 ≤ a * x + b * y ∧ a * x + b * y ≤ 4000000000 := by omega
  have Y : -4000000000 ≤ e * x + f * y ∧ e * x + f * y ≤ 4000000000 := by omega
  have xu := mul_bd (x := a * x + b * y) (y := u) (A := 4000000000) (B := 1000) X (by omega)
  have yu := mul_bd (x := e * x + f * y) (y := u) (A := 4000000000) (B := 1000) Y (by omega)
  have bn := mul_bd (x := r.bx) (y := n) (A := 100) (B := 1000000) bx n1
  have cn := mul_bd (x := r.by_) (y := n) (A := 100) (B := 1000000) bY n1
  have bd := mul_bd (x := r.bx * n) (y := r.q * d) (A := 100000000) (B := 2000000) bn (by omega)
  have cd := mul_bd (x := r.by_ * n) (y := r.q * d) (A := 100000000) (B := 2000000) cn (by omega)
  have du := mul_pos1 (x := r.q * d) (y := u) (A := 2000000) (B := 1000) (by omega) (by omega)
  have k1 := mul_bd (x := (a * x + b * y) * u + r.bx * n * (r.q * d)) (y := d') (A := 204000000000000) (B := 1000) (by omega) (by omega)
  have k2 := mul_bd (x := (e * x + f * y) * u + r.by_ * n * (r.q * d)) (y := d') (A := 204000000000000) (B := 1000) (by omega) (by omega)
  have k3 := mul_bd (x := x') (y := r.q * d * u) (A := 1000000) (B := 2000000000) xt (by omega)
  have k4 := mul_bd (x := y') (y := r.q * d * u) (A := 1000000) (B := 2000000000) yt (by omega)
  have k5 := mul_pos1 (x := r.q * d * u) (y := d') (A := 2000000000) (B := 1000) (by omega) (by omega)
  have k6 := mul_bd (x := a * x + b * y) (y := d') (A := 4000000000) (B := 1000) X (by omega)
  have k7 := mul_bd (x := e * x + f * y) (y := d') (A := 4000000000) (B := 1000) Y (by omega)
  have k8 := mul_bd (x := x') (y := r.q * d) (A := 1000000) (B := 2000000) xt (by omega)
  have k9 := mul_bd (x := y') (y := r.q * d) (A := 1000000) (B := 2000000) yt (by omega)
  have k10 := mul_pos1 (x := r.q * d) (y := d') (A := 2000000) (B := 1000) (by omega) (by omega)
  exact ⟨⟨by omega, by omega, by omega, by omega, by omega⟩, X, Y, by omega, by omega, by omega, by omega, by omega, by omega, by omega, by omega, by omega, by omega, by omega, by omega, by omega, by omega, by omega, by omega, by omega, by omega, by omega, by omega⟩
theorem spotOf_scale {x y d : Int} {g : Nat} (hg : 0 < g) (hd : 0 < d) (h1 : x * (g : Int) ≠ -9223372036854775808) (h2 : y * (g : Int) ≠ -9223372036854775808) (h3 : x ≠ -9223372036854775808) (h4 : y ≠ -9223372036854775808) :
    spotOf (x * (g : Int)) (y * (g : Int)) (d * (g : Int)) = spotOf x y d := by
  have gp : (0 : Int) < (g : Int) := by omega
  have dg := Int.mul_pos hd gp
  unfold spotOf
  have n1 : ¬ (d * (g : Int) ≤ 0 ∨ x * (g : Int) = -9223372036854775808 ∨ y * (g : Int) = -9223372036854775808) := by omega
  have n2 : ¬ (d ≤ 0 ∨ x = -9223372036854775808 ∨ y = -9223372036854775808) := by omega
  rw [if_neg n1, if_neg n2, gcdL3_mul, Int.natAbs_natCast, Int.natCast_mul, Int.mul_ediv_mul_of_pos_left _ _ gp, Int.mul_ediv_mul_of_pos_left _ _ gp, Int.mul_ediv_mul_of_pos_left _ _ gp]

set_option maxRecDepth 100000 in
set_option maxHeartbeats 8000000 in
theorem next_eq {r : RoomV} {x y d n u x' y' d' p1 p2 p3 : Int} {ok : Bool} {A1 A2 A3 : Option Addr} {c1 c2 c3 : Nat} {w : World} (M : RI w A1 r.m) (P : RoomP r) (S : SpotB x y d) (U : SpotB n u 0) (T : SpotB x' y' d') (hr : Hid (nextT r x y d n u x' y' d' = ((p1, p2, p3), ok))) :
    Calls Tryz.prog 66 #[.agg #[.slice A1 r.m.length c1, .int .i64 r.q, .int .i64 r.bx, .int .i64 r.by_, .int .i64 r.lo, .int .i64 r.hi, .slice A2 r.ns.length c2, .slice A3 r.ls.length c3], .agg #[.int .i64 x, .int .i64 y, .int .i64 d], .agg #[.int .i64 n, .int .i64 u], .agg #[.int .i64 x', .int .i64 y', .int .i64 d']] w
      fun en w' => en = .returned (.tuple #[.agg #[.int .i64 p1, .int .i64 p2, .int .i64 p3], .bool ok]) ∧ Below w.heap.size w w' := by
  have h := hr.out
  clear hr
  unfold nextT at h
  obtain ⟨sx, sy, sd⟩ := S
  obtain ⟨ux, uy, _⟩ := U
  obtain ⟨tx, ty, td⟩ := T
  obtain ⟨t1, h1⟩ : ∃ t, spotOk x y d = t := ⟨_, rfl⟩
  obtain ⟨t2, h2⟩ : ∃ t, spotOk x' y' d' = t := ⟨_, rfl⟩
  obtain ⟨t6, h6⟩ : ∃ t, (ratioOk n u && inR n (-1000 * u) (1000 * u)) = t := ⟨_, rfl⟩
  have H1 := Lib.hid h1
  have H2 := Lib.hid h2
  have H6 := Lib.hid h6
  by_cases hk : nextOk x y d n u x' y' d' = true
  · obtain ⟨a, b, e, f, hm, B⟩ := next_bd P hk
    rw [if_pos hk] at h
    unfold nextV at h
    unfold nextOk at hk
    rw [h1, h2, h6] at hk
    simp only [Bool.and_eq_true, decide_eq_true_eq] at hk
    obtain ⟨⟨⟨⟨⟨rfl, rfl⟩, h3⟩, h4⟩, h5⟩, rfl⟩ := hk
    obtain ⟨m, q, bx, bY, lo, hi, ns, ls⟩ := r
    simp only at hm h B M ⊢
    subst hm
    have HS := Lib.hid (show spotOf (((a * x + b * y) * u + bx * n * (q * d)) * d' + x' * (q * d * u)) (((e * x + f * y) * u + bY * n * (q * d)) * d' + y' * (q * d * u)) (q * d * u * d') = ((p1, p2, p3), ok) from h)
    obtain ⟨MB, X, Y, D, xu, yu, bn, cn, bd, cd, du, xt, yt, tx2, ty2, dt, _, hu, _, _, _, _, _⟩ := B
    clear h h1 h2 h6 P
    go_enter Tryz.func66, Tryz.ntmps66
    go_wp2_with (first | (go_at_call 63; (first | (with_reducible refine (calls_ov2 (impl_SpotOk_eq (by first | exact H1.out | exact H2.out) (by omega) (by omega) (by omega))).mono ?_) | refine (calls_ov (impl_SpotOk_eq (by first | exact H1.out | exact H2.out) (by omega) (by omega) (by omega))).mono ?_); rintro e w' ⟨rfl, x, rfl⟩) | (go_at_call 116; (first | (with_reducible refine (calls_ov2 (isDriven_any H6 (by omega) (by omega))).mono ?_) | refine (calls_ov (isDriven_any H6 (by omega) (by omega))).mono ?_); rintro e w' ⟨rfl, x, rfl⟩) | (go_at_call 117; (first | (with_reducible refine (calls_ov2 (mapped_val (M.below (by repeat (first | exact Below.refl _ _ | refine below_ov _ _ ?_ (by first | omega | (simp [ov_size] <;> omega)) | refine Below.alloc ?_ (by first | omega | (simp [ov_size] <;> omega)) _ | refine Below.setCell ?_ (by first | omega | (simp [ov_size] <;> omega)) _ | refine Below.drew ?_ | refine below_drewN ?_ _))) MB)).mono ?_) | refine (calls_ov (mapped_val (M.below (by repeat (first | exact Below.refl _ _ | refine below_ov _ _ ?_ (by first | omega | (simp [ov_size] <;> omega)) | refine Below.alloc ?_ (by first | omega | (simp [ov_size] <;> omega)) _ | refine Below.setCell ?_ (by first | omega | (simp [ov_size] <;> omega)) _ | refine Below.drew ?_ | refine below_drewN ?_ _))) MB)).mono ?_); rintro e w' ⟨rfl, x, rfl⟩) | (go_at_call 118; (first | (with_reducible refine (calls_ov2 (impl_SpotOf_eq HS (by omega) (by omega) (by omega))).mono ?_) | refine (calls_ov (impl_SpotOf_eq HS (by omega) (by omega) (by omega))).mono ?_); rintro e w' ⟨rfl, x, rfl⟩))
    refine bodyPost_ret (v := .tuple #[.agg #[.int .i64 p1, .int .i64 p2, .int .i64 p3], .bool ok]) (by simp [results, Tryz.results66, go_sem]) rfl ⟨rfl, ?_⟩
    (repeat (first | exact Below.refl _ _ | refine below_ov _ _ ?_ (by first | omega | (simp [ov_size] <;> omega)) | refine Below.alloc ?_ (by first | omega | (simp [ov_size] <;> omega)) _ | refine Below.setCell ?_ (by first | omega | (simp [ov_size] <;> omega)) _ | refine Below.drew ?_ | refine below_drewN ?_ _))
  · rw [if_neg hk] at h
    simp at h
    obtain ⟨⟨rfl, rfl, rfl⟩, rfl⟩ := h
    unfold nextOk at hk
    rw [h1, h2, h6] at hk
    have hc : t1 = false ∨ (t1 = true ∧ t2 = false) ∨ (t1 = true ∧ t2 = true ∧ ¬ d ≤ 100000) ∨ (t1 = true ∧ t2 = true ∧ d ≤ 100000 ∧ ¬ d' ≤ 1000) ∨ (t1 = true ∧ t2 = true ∧ d ≤ 100000 ∧ d' ≤ 1000 ∧ ¬ u ≤ 1000) ∨ (t1 = true ∧ t2 = true ∧ d ≤ 100000 ∧ d' ≤ 1000 ∧ u ≤ 1000 ∧ t6 = false) := by
      by_cases q3 : d ≤ 100000 <;> by_cases q4 : d' ≤ 1000 <;> by_cases q5 : u ≤ 1000 <;> cases t1 <;> cases t2 <;> cases t6 <;> simp [q3, q4, q5] at hk ⊢
    clear hk h1 h2 h6 P
    rcases hc with rfl | ⟨rfl, rfl⟩ | ⟨rfl, rfl, q3⟩ | ⟨rfl, rfl, q3, q4⟩ | ⟨rfl, rfl, q3, q4, q5⟩ | ⟨rfl, rfl, q3, q4, q5, rfl⟩
    all_goals
      go_enter Tryz.func66, Tryz.ntmps66
      go_wp2_with (first | (go_at_call 63; (first | (with_reducible refine (calls_ov2 (impl_SpotOk_eq (by first | exact H1.out | exact H2.out) (by omega) (by omega) (by omega))).mono ?_) | refine (calls_ov (impl_SpotOk_eq (by first | exact H1.out | exact H2.out) (by omega) (by omega) (by omega))).mono ?_); rintro e w' ⟨rfl, x, rfl⟩) | (go_at_call 116; (first | (with_reducible refine (calls_ov2 (isDriven_any H6 (by omega) (by omega))).mono ?_) | refine (calls_ov (isDriven_any H6 (by omega) (by omega))).mono ?_); rintro e w' ⟨rfl, x, rfl⟩))
      refine bodyPost_ret (v := .tuple #[.agg #[.int .i64 0, .int .i64 0, .int .i64 0], .bool false]) (by simp [results, Tryz.results66, go_sem]) rfl ⟨rfl, ?_⟩
      (repeat (first | exact Below.refl _ _ | refine below_ov _ _ ?_ (by first | omega | (simp [ov_size] <;> omega)) | refine Below.alloc ?_ (by first | omega | (simp [ov_size] <;> omega)) _ | refine Below.setCell ?_ (by first | omega | (simp [ov_size] <;> omega)) _ | refine Below.drew ?_ | refine below_drewN ?_ _))
theorem next_same {X0 Y0 D0 n u x' y' d' bx bY : Int} {g : Nat} {p q s : Int} (hg : 0 < g) (ex : X0 * d' + x' * D0 = p * (g : Int)) (ey : Y0 * d' + y' * D0 = q * (g : Int)) (ed : D0 * d' = s * (g : Int)) :
    (X0 * u + bx * n * D0) * d' + x' * (D0 * u) = (p * u + bx * n * s) * (g : Int) ∧ (Y0 * u + bY * n * D0) * d' + y' * (D0 * u) = (q * u + bY * n * s) * (g : Int) ∧ D0 * u * d' = s * u * (g : Int) := by
  refine ⟨?_, ?_, ?_⟩
  · have : (p * u + bx * n * s) * (g : Int) = u * (p * (g : Int)) + bx * n * (s * (g : Int)) := by grind
    rw [this, ← ex, ← ed]; grind
  · have : (q * u + bY * n * s) * (g : Int) = u * (q * (g : Int)) + bY * n * (s * (g : Int)) := by grind
    rw [this, ← ey, ← ed]; grind
  · have : s * u * (g : Int) = u * (s * (g : Int)) := by grind
    rw [this, ← ed]; grind
set_option maxRecDepth 100000 in
set_option maxHeartbeats 8000000 in
theorem spec_NextSpot_eq {r : RoomV} {xx y d n u x' y' d' p1 p2 p3 : Int} {ok : Bool} {A1 A2 A3 : Option Addr} {c1 c2 c3 : Nat} {w : World} (M : RM w r A1 A2 c2 A3 c3) (hs : r.Short) (S : SpotB xx y d) (U : SpotB n u 0) (T : SpotB x' y' d') (hr : Hid (nextR r xx y d n u x' y' d' = ((p1, p2, p3), ok))) :
    Calls Tryz.prog 58 #[.agg #[.slice A1 r.m.length c1, .int .i64 r.q, .int .i64 r.bx, .int .i64 r.by_, .int .i64 r.lo, .int .i64 r.hi, .slice A2 r.ns.length c2, .slice A3 r.ls.length c3], .agg #[.int .i64 xx, .int .i64 y, .int .i64 d], .agg #[.int .i64 n, .int .i64 u], .agg #[.int .i64 x', .int .i64 y', .int .i64 d']] w
      fun en w' => en = .returned (.tuple #[.agg #[.int .i64 p1, .int .i64 p2, .int .i64 p3], .bool ok]) ∧ Below w.heap.size w w' := by
  have h := hr.out
  clear hr
  unfold nextR nextT at h
  obtain ⟨sx, sy, sd⟩ := S
  obtain ⟨ux, uy, _⟩ := U
  obtain ⟨tx, ty, td⟩ := T
  obtain ⟨v, hv⟩ : ∃ v, roomOk r = v := ⟨_, rfl⟩
  obtain ⟨t1, h1⟩ : ∃ t, spotOk xx y d = t := ⟨_, rfl⟩
  obtain ⟨t2, h2⟩ : ∃ t, spotOk x' y' d' = t := ⟨_, rfl⟩
  obtain ⟨t6, h6⟩ : ∃ t, ratioOk n u = t := ⟨_, rfl⟩
  obtain ⟨t7, h7⟩ : ∃ t, inR n (-1000 * u) (1000 * u) = t := ⟨_, rfl⟩
  rw [hv] at h
  have HV := Lib.hid hv
  have H1 := Lib.hid h1
  have H2 := Lib.hid h2
  have H6 := Lib.hid h6
  have H7 := Lib.hid h7
  by_cases hk : v = true ∧ nextOk xx y d n u x' y' d' = true
  · obtain ⟨rfl, hk⟩ := hk
    have P := roomOk_parts hv
    obtain ⟨a, b, e, f, hm, B⟩ := next_bd P hk
    rw [if_pos rfl, if_pos hk] at h
    unfold nextV at h
    unfold nextOk at hk
    rw [h1, h2, h6, h7] at hk
    simp only [Bool.and_eq_true, decide_eq_true_eq] at hk
    obtain ⟨⟨⟨⟨⟨rfl, rfl⟩, h3⟩, h4⟩, h5⟩, rfl, rfl⟩ := hk
    have MR := M.mr
    obtain ⟨MB, X, Y, D, xu, yu, bn, cn, bd, cd, du, xt, yt, tx2, ty2, dt, hd', hu, xs, ys, txs, tys, ds⟩ := B
    obtain ⟨m, q, bx, bY, lo, hi, ns, ls⟩ := r
    have M2 := M.nr
    have M3 := M.lr
    simp only at hm h MR M2 M3 X Y D xu yu bn cn bd cd du xt yt tx2 ty2 dt xs ys txs tys ds MB ⊢
    subst hm
    obtain ⟨g, p, qq, s, eg, g0, ex, ey, ed, _, _, _, _, s0⟩ := reduced (x := (a * xx + b * y) * d' + x' * (q * d)) (y := (e * xx + f * y) * d' + y' * (q * d)) (d := q * d * d') (by omega)
    obtain ⟨f1, f2, f3⟩ := next_same (n := n) (u := u) (bx := bx) (bY := bY) g0 ex ey ed
    have bp := mul_le_bd (a := p) (M := 6000000000000) g0 (by omega) (by rw [← ex]; omega)
    have bqq := mul_le_bd (a := qq) (M := 6000000000000) g0 (by omega) (by rw [← ey]; omega)
    have bs := mul_le_bd (a := s) (M := 2000000000) g0 (by omega) (by rw [← ed]; omega)
    have pu := mul_bd (x := p) (y := u) (A := 6000000000000) (B := 1000) bp (by omega)
    have qu := mul_bd (x := qq) (y := u) (A := 6000000000000) (B := 1000) bqq (by omega)
    have bns := mul_bd (x := bx * n) (y := s) (A := 100000000) (B := 2000000000) bn bs
    have cns := mul_bd (x := bY * n) (y := s) (A := 100000000) (B := 2000000000) cn bs
    have su := mul_pos1 (x := s) (y := u) (A := 2000000000) (B := 1000) (by omega) (by omega)
    have HS := Lib.hid (show spotOf (p * u + bx * n * s) (qq * u + bY * n * s) (s * u) = ((p1, p2, p3), ok) by
      rw [← h]
      show _ = spotOf (((a * xx + b * y) * u + bx * n * (q * d)) * d' + x' * (q * d * u)) (((e * xx + f * y) * u + bY * n * (q * d)) * d' + y' * (q * d * u)) (q * d * u * d')
      rw [f1, f2, f3, spotOf_scale g0 (by omega) (by omega) (by omega) (by omega) (by omega)])
    obtain ⟨g1, hg1⟩ : ∃ v, gcdS ((a * xx + b * y) * d' + x' * (q * d)) ((e * xx + f * y) * d' + y' * (q * d)) = v := ⟨_, rfl⟩
    have hg2 : gcdS g1 (q * d * d') = (g : Int) := by rw [← hg1, gcdS3 _ _ _ (by omega) (by omega) (by omega), eg]
    have bg1 := gcdS_bd ((a * xx + b * y) * d' + x' * (q * d)) ((e * xx + f * y) * d' + y' * (q * d)) (by omega) (by omega)
    rw [hg1] at bg1
    have hgb : (g : Int) ≤ 9223372036854775807 := by rw [← hg2]; exact (gcdS_bd g1 (q * d * d') bg1.2 (by omega)).2
    have tx0 := tdiv_exact g0 ex
    have ty0 := tdiv_exact g0 ey
    have td0 := tdiv_exact g0 ed
    have gz : ((g : Int) == 0) = false := by simp; omega
    have nX : ¬ ((g : Int) = -1) := by omega
    obtain ⟨ag, og, rfl, hga, e0, e1, e2, e3⟩ := MR.four
    have HM : Hid (RM w ⟨[a, b, e, f], q, bx, bY, lo, hi, ns, ls⟩ (some ⟨ag, og, none⟩) A2 c2 A3 c3) := Lib.hid M
    have HV' : Hid (roomOk ⟨[a, b, e, f], q, bx, bY, lo, hi, ns, ls⟩ = true) := HV
    have HGA := Lib.hid hg1
    have HGB := Lib.hid hg2
    obtain ⟨mp1, mp2, mp3, mp4, _⟩ := MB
    clear h h1 h2 h6 h7 hv f1 f2 f3 eg M MR P HV hg1 hg2 M2 M3 ex ey ed
    go_enter Tryz.func58, Tryz.ntmps58
    go_wp2_with (first | (go_at_call 70; (first | (with_reducible refine (calls_ov2 (spec_RoomOk_eq (r := ⟨[a, b, e, f], q, bx, bY, lo, hi, ns, ls⟩) (HM.out.below (by repeat (first | exact Below.refl _ _ | refine below_ov _ _ ?_ (by first | omega | (simp [ov_size] <;> omega)) | refine Below.alloc ?_ (by first | omega | (simp [ov_size] <;> omega)) _ | refine Below.setCell ?_ (by first | omega | (simp [ov_size] <;> omega)) _ | refine Below.drew ?_ | refine below_drewN ?_ _))) hs HV')).mono ?_) | refine (calls_ov (spec_RoomOk_eq (r := ⟨[a, b, e, f], q, bx, bY, lo, hi, ns, ls⟩) (HM.out.below (by repeat (first | exact Below.refl _ _ | refine below_ov _ _ ?_ (by first | omega | (simp [ov_size] <;> omega)) | refine Below.alloc ?_ (by first | omega | (simp [ov_size] <;> omega)) _ | refine Below.setCell ?_ (by first | omega | (simp [ov_size] <;> omega)) _ | refine Below.drew ?_ | refine below_drewN ?_ _))) hs HV')).mono ?_); rintro e w' ⟨rfl, x, rfl⟩) | (go_at_call 55; (first | (with_reducible refine (calls_ov2 (spec_SpotOk_eq (by first | exact H1.out | exact H2.out) (by omega) (by omega) (by omega))).mono ?_) | refine (calls_ov (spec_SpotOk_eq (by first | exact H1.out | exact H2.out) (by omega) (by omega) (by omega))).mono ?_); rintro e w' ⟨rfl, x, rfl⟩) | (go_at_call 100; (first | (with_reducible refine (calls_ov2 (spec_RatioOk_eq (by exact H6.out) (by omega) (by omega))).mono ?_) | refine (calls_ov (spec_RatioOk_eq (by exact H6.out) (by omega) (by omega))).mono ?_); rintro e w' ⟨rfl, x, rfl⟩) | (go_at_call 90; refine (l01In_eq (by exact H7.out)).mono ?_; rintro e w' ⟨rfl, rfl⟩))
    obtain ⟨W0, hW⟩ : ∃ W0, W0 = ov (((((w.alloc (.cells #[.slice (some ⟨ag, og, none⟩) 4 c1, .int .i64 q, .int .i64 bx, .int .i64 bY, .int .i64 lo, .int .i64 hi, .slice A2 ns.length c2, .slice A3 ls.length c3] 39)).alloc (.cells #[.int .i64 xx, .int .i64 y, .int .i64 d] 41)).alloc (.cells #[.int .i64 n, .int .i64 u] 43)).alloc (.cells #[.int .i64 x', .int .i64 y', .int .i64 d'] 41)).alloc (.cells #[.int .i64 0, .int .i64 0, .int .i64 0] 41)) x := ⟨_, rfl⟩
    rw [← hW]
    have TW : Below w.heap.size w W0 := by rw [hW]; exact (by repeat (first | exact Below.refl _ _ | refine below_ov _ _ ?_ (by first | omega | (simp [ov_size] <;> omega)) | refine Below.alloc ?_ (by first | omega | (simp [ov_size] <;> omega)) _ | refine Below.setCell ?_ (by first | omega | (simp [ov_size] <;> omega)) _ | refine Below.drew ?_ | refine below_drewN ?_ _))
    have Y0 : W0.heap[w.heap.size]? = some (.cells #[.slice (some ⟨ag, og, none⟩) 4 c1, .int .i64 q, .int .i64 bx, .int .i64 bY, .int .i64 lo, .int .i64 hi, .slice A2 ns.length c2, .slice A3 ls.length c3] 39 (0, 0)) := by rw [hW]; exact ov_blk ((heap_old_at (by simp <;> omega)).trans ((heap_old_at (by simp <;> omega)).trans ((heap_old_at (by simp <;> omega)).trans ((heap_old_at (by simp)).trans (heap_new_at (by simp) rfl)))))
    have Y1 : W0.heap[w.heap.size + 1]? = some (.cells #[.int .i64 xx, .int .i64 y, .int .i64 d] 41 (0, 0)) := by rw [hW]; exact ov_blk ((heap_old_at (by simp <;> omega)).trans ((heap_old_at (by simp <;> omega)).trans ((heap_old_at (by simp)).trans (heap_new_at (by simp) rfl))))
    have Y2 : W0.heap[w.heap.size + 1 + 1]? = some (.cells #[.int .i64 n, .int .i64 u] 43 (0, 0)) := by rw [hW]; exact ov_blk ((heap_old_at (by simp <;> omega)).trans ((heap_old_at (by simp)).trans (heap_new_at (by simp) rfl)))
    have Y3 : W0.heap[w.heap.size + 1 + 1 + 1]? = some (.cells #[.int .i64 x', .int .i64 y', .int .i64 d'] 41 (0, 0)) := by rw [hW]; exact ov_blk ((heap_old_at (by simp)).trans (heap_new_at (by simp) rfl))
    have Y4 : W0.heap[w.heap.size + 1 + 1 + 1 + 1]? = some (.cells #[.int .i64 0, .int .i64 0, .int .i64 0] 41 (0, 0)) := by rw [hW]; exact ov_blk (heap_new_at (by simp) rfl)
    have b4 : w.heap.size ≤ w.heap.size + 1 + 1 + 1 + 1 := by omega
    replace e0 := (TW.cell (p := ⟨ag, og, none⟩) hga).trans e0
    replace e1 := (TW.cell (p := ⟨ag, og + 1, none⟩) hga).trans e1
    replace e2 := (TW.cell (p := ⟨ag, og + 2, none⟩) hga).trans e2
    replace e3 := (TW.cell (p := ⟨ag, og + 3, none⟩) hga).trans e3
    have hgw : ag < W0.heap.size := by have := TW.size; omega
    clear hW hga HM HV'
    generalize w.heap.size + 1 + 1 + 1 + 1 = k4 at Y4 b4 ⊢
    generalize w.heap.size + 1 + 1 + 1 = k3 at Y3 ⊢
    generalize w.heap.size + 1 + 1 = k2 at Y2 ⊢
    generalize w.heap.size + 1 = k1 at Y1 ⊢
    obtain ⟨k0, hk0⟩ : ∃ b, w.heap.size = b := ⟨_, rfl⟩
    rw [hk0] at Y0 ⊢
    have v00 := cell_blk (j := 0) (v := .slice (some ⟨ag, og, none⟩) 4 c1) Y0 rfl
    have v02 := cell_blk (j := 2) (v := .int .i64 bx) Y0 rfl
    have v03 := cell_blk (j := 3) (v := .int .i64 bY) Y0 rfl
    have v10 := cell_blk (j := 0) (v := .int .i64 xx) Y1 rfl
    have v11 := cell_blk (j := 1) (v := .int .i64 y) Y1 rfl
    have v12 := cell_blk (j := 2) (v := .int .i64 d) Y1 rfl
    have v20 := cell_blk (j := 0) (v := .int .i64 n) Y2 rfl
    have v21 := cell_blk (j := 1) (v := .int .i64 u) Y2 rfl
    have v30 := cell_blk (j := 0) (v := .int .i64 x') Y3 rfl
    have v31 := cell_blk (j := 1) (v := .int .i64 y') Y3 rfl
    have v32 := cell_blk (j := 2) (v := .int .i64 d') Y3 rfl
    have v40 := cell_blk (j := 0) (v := .int .i64 0) Y4 rfl
    have v41 := cell_blk (j := 1) (v := .int .i64 0) Y4 rfl
    have v42 := cell_blk (j := 2) (v := .int .i64 0) Y4 rfl
    have w40 := frozen_blk (j := 0) Y4
    have w41 := frozen_blk (j := 1) Y4
    have w42 := frozen_blk (j := 2) Y4
    have y0l := (Array.getElem?_eq_some_iff.1 Y0).1
    have y1l := (Array.getElem?_eq_some_iff.1 Y1).1
    have y2l := (Array.getElem?_eq_some_iff.1 Y2).1
    have y3l := (Array.getElem?_eq_some_iff.1 Y3).1
    have y4l := (Array.getElem?_eq_some_iff.1 Y4).1
    clear Y0 Y1 Y2 Y3 Y4
    ((first | (with_reducible refine wp_region_calm2 (by kernel_rfl) (by kernel_rfl) ?_) | refine wp_region_calm (by kernel_rfl) (by kernel_rfl) ?_); (repeat (go_big_quiet_step (first | fail))); refine wpQuiet_nil ?_; rintro _ ⟨y, rfl⟩)
    go_wp2
    ((first | (with_reducible refine wp_region_calm2 (by kernel_rfl) (by kernel_rfl) ?_) | refine wp_region_calm (by kernel_rfl) (by kernel_rfl) ?_); (repeat (go_big_quiet_step (first | fail))); refine wpQuiet_nil ?_; rintro _ ⟨y, rfl⟩)
    go_wp2_with (first | (go_at_call 106; refine (spec_GcdOf_eq (by first | exact HGA.out | exact HGB.out) (by omega) (by omega) (by omega) (by omega)).mono ?_; rintro e w' ⟨rfl, n, rfl⟩) | (go_at_call 109; (first | (with_reducible refine (calls_ov2 (spec_SpotOf_eq HS (by omega) (by omega) (by omega))).mono ?_) | refine (calls_ov (spec_SpotOf_eq HS (by omega) (by omega) (by omega))).mono ?_); rintro e w' ⟨rfl, x, rfl⟩))
    refine bodyPost_ret (v := .tuple #[.agg #[.int .i64 p1, .int .i64 p2, .int .i64 p3], .bool ok]) (by simp [results, Tryz.results58, go_sem, y4l, v40, v41, v42]) rfl ⟨rfl, ?_⟩
    exact (by repeat (first | exact TW | refine below_ov _ _ ?_ (by first | omega | (simp [ov_size] <;> omega)) | refine Below.alloc ?_ (by first | omega | (simp [ov_size] <;> omega)) _ | refine Below.setCell ?_ (by first | omega | (simp [ov_size] <;> omega)) _ | refine Below.drew ?_ | refine below_drewN ?_ _))
  · have e0 : (if v = true then (if nextOk xx y d n u x' y' d' = true then nextV r xx y d n u x' y' d' else ((0, 0, 0), false)) else ((0, 0, 0), false)) = ((0, 0, 0), false) := by
      cases v with
      | false => rfl
      | true => rw [if_pos rfl, if_neg (fun h => hk ⟨rfl, h⟩)]
    rw [e0] at h
    simp at h
    obtain ⟨⟨rfl, rfl, rfl⟩, rfl⟩ := h
    unfold nextOk at hk
    rw [h1, h2, h6, h7] at hk
    have hc : v = false ∨ (v = true ∧ t1 = false) ∨ (v = true ∧ t1 = true ∧ t6 = false) ∨ (v = true ∧ t1 = true ∧ t6 = true ∧ t2 = false) ∨ (v = true ∧ t1 = true ∧ t6 = true ∧ t2 = true ∧ ¬ d ≤ 100000) ∨ (v = true ∧ t1 = true ∧ t6 = true ∧ t2 = true ∧ d ≤ 100000 ∧ ¬ d' ≤ 1000) ∨ (v = true ∧ t1 = true ∧ t6 = true ∧ t2 = true ∧ d ≤ 100000 ∧ d' ≤ 1000 ∧ ¬ u ≤ 1000) ∨ (v = true ∧ t1 = true ∧ t6 = true ∧ t2 = true ∧ d ≤ 100000 ∧ d' ≤ 1000 ∧ u ≤ 1000 ∧ t7 = false) := by
      by_cases q3 : d ≤ 100000 <;> by_cases q4 : d' ≤ 1000 <;> by_cases q5 : u ≤ 1000 <;> cases v <;> cases t1 <;> cases t2 <;> cases t6 <;> cases t7 <;> simp [q3, q4, q5] at hk ⊢
    have hub : t6 = true → 1 ≤ u ∧ u ≤ 1000000000000000 := fun q => (ratioOk_bd (h6.trans q)).1
    clear hk h1 h2 h6 h7 hv e0
    rcases hc with rfl | ⟨rfl, rfl⟩ | ⟨rfl, rfl, rfl⟩ | ⟨rfl, rfl, rfl, rfl⟩ | ⟨rfl, rfl, rfl, rfl, q3⟩ | ⟨rfl, rfl, rfl, rfl, q3, q4⟩ | ⟨rfl, rfl, rfl, rfl, q3, q4, q5⟩ | ⟨rfl, rfl, rfl, rfl, q3, q4, q5, rfl⟩
    all_goals
      try replace hub := hub rfl
      go_enter Tryz.func58, Tryz.ntmps58
      go_wp2_with (first | (go_at_call 70; (first | (with_reducible refine (calls_ov2 (spec_RoomOk_eq (M.below (by repeat (first | exact Below.refl _ _ | refine below_ov _ _ ?_ (by first | omega | (simp [ov_size] <;> omega)) | refine Below.alloc ?_ (by first | omega | (simp [ov_size] <;> omega)) _ | refine Below.setCell ?_ (by first | omega | (simp [ov_size] <;> omega)) _ | refine Below.drew ?_ | refine below_drewN ?_ _))) hs HV)).mono ?_) | refine (calls_ov (spec_RoomOk_eq (M.below (by repeat (first | exact Below.refl _ _ | refine below_ov _ _ ?_ (by first | omega | (simp [ov_size] <;> omega)) | refine Below.alloc ?_ (by first | omega | (simp [ov_size] <;> omega)) _ | refine Below.setCell ?_ (by first | omega | (simp [ov_size] <;> omega)) _ | refine Below.drew ?_ | refine below_drewN ?_ _))) hs HV)).mono ?_); rintro e w' ⟨rfl, x, rfl⟩) | (go_at_call 55; (first | (with_reducible refine (calls_ov2 (spec_SpotOk_eq (by first | exact H1.out | exact H2.out) (by omega) (by omega) (by omega))).mono ?_) | refine (calls_ov (spec_SpotOk_eq (by first | exact H1.out | exact H2.out) (by omega) (by omega) (by omega))).mono ?_); rintro e w' ⟨rfl, x, rfl⟩) | (go_at_call 100; (first | (with_reducible refine (calls_ov2 (spec_RatioOk_eq (by exact H6.out) (by omega) (by omega))).mono ?_) | refine (calls_ov (spec_RatioOk_eq (by exact H6.out) (by omega) (by omega))).mono ?_); rintro e w' ⟨rfl, x, rfl⟩) | (go_at_call 90; refine (l01In_eq (by exact H7.out)).mono ?_; rintro e w' ⟨rfl, rfl⟩))
      refine bodyPost_ret (v := .tuple #[.agg #[.int .i64 0, .int .i64 0, .int .i64 0], .bool false]) (by simp [results, Tryz.results58, go_sem]) rfl ⟨rfl, ?_⟩
      (repeat (first | exact Below.refl _ _ | refine below_ov _ _ ?_ (by first | omega | (simp [ov_size] <;> omega)) | refine Below.alloc ?_ (by first | omega | (simp [ov_size] <;> omega)) _ | refine Below.setCell ?_ (by first | omega | (simp [ov_size] <;> omega)) _ | refine Below.drew ?_ | refine below_drewN ?_ _))
end Go.Proofs.YtgdleimdenbnlaaGreat
