/- Several texts in one: Zu, Zv, LH. Each says its own conditions. -/
import Derived.Test.YtabmfaamadbefaaGreatZy
import Derived.Test.YtabmfaamadbefaaGreatQh
import Derived.Test.YtabmfaamadbefaaGreatSk
import Derived.Test.YtabmfaamadbefaaGreatWh
import Derived.Test.YtabmfaamadbefaaGreatQz
import Derived.Test.YtabmfaamadbefaaGreatCst
import Derived.Test.YtabmfaamadbefaaGreatQo
import Derived.Test.YtabmfaamadbefaaGreatKo
import Derived.Test.YtabmfaamadbefaaGreatPk
import Derived.Test.YtabmfaamadbefaaGreatWi
/- Plain: when a state is held, at a drawn room (FnHeld). No program. -/
set_option linter.unusedSimpArgs false
set_option linter.unusedVariables false
set_option linter.unusedSectionVars false
namespace Go.Proofs.YtabmfaamadbefaaGreat
open Go.RowKit
/-- The next state lies in the frame: there is one. -/
theorem next_fine {r : RoomV} (D : RoomD r) {x y n : Int} (hx : -15 ≤ x ∧ x < 15) (hy : -15 ≤ y ∧ y < 15) (hn : r.lo ≤ n ∧ n ≤ r.hi) {t : H3} (ht : t ∈ cornersL r.ns) : (nextT r x y 1 n 1 t.a t.b t.c).2 = true := by
  obtain ⟨nk, nn, _⟩ := noise_reg D
  obtain ⟨a, ha, en⟩ := D.ns
  have hb : t.c = 1 ∧ (-2 ≤ t.a ∧ t.a ≤ 2) ∧ (-1 ≤ t.b ∧ t.b ≤ 1) := by
    rw [en, box_corners (noise_box ha)] at ht
    simp only [List.mem_cons, List.not_mem_nil, or_false] at ht
    rcases ht with rfl | rfl | rfl | rfl <;> (refine ⟨rfl, ⟨?_, ?_⟩, ?_, ?_⟩ <;> (dsimp only; omega))
  obtain ⟨tc, ta, tb⟩ := hb
  have lo := D.lo
  have hi := D.hi
  have hq := D.q
  have ok : nextOk x y 1 n 1 t.a t.b t.c = true := by
    unfold nextOk
    simp only [Bool.and_eq_true, decide_eq_true_eq]
    refine ⟨⟨⟨⟨⟨wspot_ok (by omega) (by omega), ?_⟩, by omega⟩, by omega⟩, by omega⟩, whole_rat (by omega), inR_iff.2 (by omega)⟩
    rw [tc]
    exact wspot_ok (by omega) (by omega)
  unfold nextT
  rw [if_pos ok]
  unfold nextV
  rw [tc]
  obtain ⟨e, f, g, he, hf, hg, hm⟩ := D.mq
  have hbx := D.bx
  have hby := D.by_
  rw [hm]
  simp only [List.getD_cons_zero, List.getD_cons_succ, Int.mul_one]
  have m1 := mul_bd (A := 10) (B := 15) (x := r.q - 1 + e) (y := x) (by omega) (by omega)
  have m2 := mul_bd (A := 1) (B := 15) (x := f) (y := y) (by omega) (by omega)
  have m3 := mul_bd (A := 1) (B := 15) (x := -g) (y := x) (by omega) (by omega)
  have m4 := mul_bd (A := 10) (B := 15) (x := r.q - 1) (y := y) (by omega) (by omega)
  have n1 := mul_bd (A := 3) (B := 14) (x := r.bx) (y := n) (by omega) (by omega)
  have n2 := mul_bd (A := 3) (B := 14) (x := r.by_) (y := n) (by omega) (by omega)
  have p1 := mul_bd (A := 42) (B := 10) (x := r.bx * n) (y := r.q) (by omega) (by omega)
  have p2 := mul_bd (A := 42) (B := 10) (x := r.by_ * n) (y := r.q) (by omega) (by omega)
  have p3 := mul_bd (A := 2) (B := 10) (x := t.a) (y := r.q) (by omega) (by omega)
  have p4 := mul_bd (A := 2) (B := 10) (x := t.b) (y := r.q) (by omega) (by omega)
  obtain ⟨g', a', b', c', _, _, hs, _⟩ := spotOf_frame (p := ((r.q - 1 + e) * x + f * y + r.bx * n * r.q + t.a * r.q, -g * x + (r.q - 1) * y + r.by_ * n * r.q + t.b * r.q, r.q)) (by simp only; omega) (by simp only; omega) (by unfold inFrameI; simp only; omega)
  rw [hs]
theorem step_set {r : RoomV} (hq : 0 < r.q) {x y n u : Int} {t : H3} (h : stepH r x y 1 n u r.ls t = true) : setR r.ls (addP (movP (stateP r x y) (fr (n, u)) r.bx r.by_) (ptOf (t.a, t.b, t.c))) := by
  unfold stepH at h
  obtain ⟨⟨q, ok⟩, hv⟩ : ∃ v, nextT r x y 1 n u t.a t.b t.c = v := ⟨_, rfl⟩
  rw [hv] at h
  simp only [Bool.and_eq_true] at h
  obtain ⟨rfl, h2⟩ := h
  obtain ⟨_, q0, e⟩ := nextT_val hq hv
  have := (has_set (s := toH q) (by unfold toH; simp only; exact q0)).1 h2
  rw [← e]
  exact this
theorem set_step {r : RoomV} (hq : 0 < r.q) {x y n u : Int} {t : H3} (hok : (nextT r x y 1 n u t.a t.b t.c).2 = true) (h : setR r.ls (addP (movP (stateP r x y) (fr (n, u)) r.bx r.by_) (ptOf (t.a, t.b, t.c)))) : stepH r x y 1 n u r.ls t = true := by
  unfold stepH
  obtain ⟨⟨q, ok⟩, hv⟩ : ∃ v, nextT r x y 1 n u t.a t.b t.c = v := ⟨_, rfl⟩
  rw [hv] at hok ⊢
  simp only at hok
  subst hok
  obtain ⟨_, q0, e⟩ := nextT_val hq hv
  rw [← e] at h
  simp only [Bool.true_and]
  exact (has_set (s := toH q) (by unfold toH; simp only; exact q0)).2 h
/-- A point stays in the limits at every noise exactly if it does at the corners of the noise. -/
theorem noise_corners {r : RoomV} {e : List H3} (D : RoomD r) (E : RobP r e) {z : Pt} : setR e z ↔ ∀ t ∈ cornersL r.ns, setR r.ls (addP z (ptOf (t.a, t.b, t.c))) := by
  obtain ⟨nk, nn, _⟩ := noise_reg D
  have L := limits D
  rw [E.set]
  constructor
  · intro h t ht
    exact h.2.2 _ (corner_set nk ht).2.2
  · intro h
    have all : ∀ t, setR r.ns t → setR r.ls (addP z t) := fun t ht => by
      obtain ⟨G, _⟩ := region_good L.reg
      obtain ⟨g0, hg0⟩ : ∃ g, g ∈ r.ls := List.exists_mem_of_ne_nil _ (by
        intro e0
        have hF := L.core ⟨0, 0⟩ (by simp only; grind) (by simp only; grind)
        exact hF.1 e0)
      refine ⟨List.ne_nil_of_mem hg0, fun g hg => ?_⟩
      obtain ⟨s, hs, c0, hmax⟩ := corner_max nk nn (G g hg).nz
      have h1 := (h s hs).2 g hg
      have h2 := hmax t ht
      unfold In at h1 ⊢
      rw [val_addP] at h1 ⊢
      grind
    have hz := all _ (noise_zero D)
    rw [addP_zero'] at hz
    refine ⟨?_, set_frame L.reg hz, all⟩
    exact FatP.mono (fun y hy => ((E.set y).1 hy).2) (set_fat E.reg E.ne)
/-- A held input keeps the state. -/
theorem held_in {r : RoomV} {e : List H3} {x y n u : Int} (D : RoomD r) (E : RobP r e) (h : isHeldR r x y 1 n u r.ls = true) : (ratP (n, u) ∧ (r.lo : Rat) ≤ fr (n, u) ∧ fr (n, u) ≤ (r.hi : Rat)) ∧ setR e (movP (stateP r x y) (fr (n, u)) r.bx r.by_) := by
  unfold isHeldR isInputR at h
  simp only [Bool.and_eq_true, List.all_eq_true] at h
  obtain ⟨⟨⟨⟨⟨_, h1⟩, h2⟩, _⟩, _⟩, h5⟩ := h
  have u0 := ratP_pos (a := (n, u)) h1
  have uq : (0 : Rat) < (u : Rat) := by exact_mod_cast u0
  have h2' := inR_iff.1 h2
  have c1 := le_cast h2'.1
  have c2 := le_cast h2'.2
  push_cast at c1 c2
  refine ⟨⟨h1, ?_, ?_⟩, (noise_corners D E).2 fun t ht => step_set (next_pos D) (h5 t ht)⟩
  · unfold fr; rw [le_divR uq]; exact c1
  · unfold fr; rw [div_leR uq]; exact c2
theorem in_held {r : RoomV} {e : List H3} {x y n : Int} (D : RoomD r) (E : RobP r e) (hx : -15 ≤ x ∧ x < 15) (hy : -15 ≤ y ∧ y < 15) (hn : r.lo ≤ n ∧ n ≤ r.hi) (h : setR e (movP (stateP r x y) (n : Rat) r.bx r.by_)) : isHeldR r x y 1 n 1 r.ls = true := by
  have lo := D.lo
  have hi := D.hi
  unfold isHeldR isInputR
  simp only [Bool.and_eq_true, List.all_eq_true]
  refine ⟨⟨⟨⟨⟨room_ok D, whole_rat (by omega)⟩, inR_iff.2 (by omega)⟩, wspot_ok (by omega) (by omega)⟩, (limits D).reg⟩, fun t ht => ?_⟩
  refine set_step (next_pos D) (next_fine D hx hy hn ht) ?_
  rw [fr_one]
  exact (noise_corners D E).1 h t ht
end Go.Proofs.YtabmfaamadbefaaGreat
/- Plain: the admitted span of a drawn state against the inputs that hold it (FnHeld). No program. -/
set_option linter.unusedSimpArgs false
set_option linter.unusedVariables false
set_option linter.unusedSectionVars false
namespace Go.Proofs.YtabmfaamadbefaaGreat
open Go.RowKit
theorem inSpan_fr {l1 l2 m1 m2 u v : Int} (h1 : ratP (l1, l2)) (h2 : ratP (m1, m2)) (hle : fr (l1, l2) ≤ fr (m1, m2)) (hu : ratP (u, v)) : inSpan l1 l2 m1 m2 u v = true ↔ spanP ((l1, l2), (m1, m2)) (fr (u, v)) := by
  have c1 := cmp_fr h1 h2
  have c2 := cmp_fr h1 hu
  have c3 := cmp_fr hu h2
  unfold inSpan spanOk spanP
  simp only [Bool.and_eq_true, decide_eq_true_eq]
  simp only at c1 c2 c3
  rw [c1, c2, c3]
  constructor
  · rintro ⟨⟨_, a⟩, b⟩
    exact ⟨a, b⟩
  · rintro ⟨a, b⟩
    exact ⟨⟨⟨⟨⟨h1, h2⟩, hle⟩, hu⟩, a⟩, b⟩
theorem inSpan_rat {l1 l2 m1 m2 u v : Int} (h : inSpan l1 l2 m1 m2 u v = true) : ratP (u, v) := by
  unfold inSpan at h
  simp only [Bool.and_eq_true] at h
  exact h.1.1.2
/-- What FnHeld says of an admitted span. -/
structure HeldP (r : RoomV) (x y l1 l2 m1 m2 : Int) : Prop where
  ok : spanOk l1 l2 m1 m2 = true
  low : 0 ≤ ratioCmp l1 l2 r.lo 1
  high : ratioCmp m1 m2 r.hi 1 ≤ 0
  loop : ∀ n, r.lo ≤ n → n ≤ r.hi → isHeldR r x y 1 n 1 r.ls = inSpan l1 l2 m1 m2 n 1
  pick : ∀ k, -1000 ≤ k ∧ k ≤ 1000 → inSpan l1 l2 m1 m2 (pickS l1 l2 m1 m2 k).1 (pickS l1 l2 m1 m2 k).2 = true ∧ isInputR r (pickS l1 l2 m1 m2 k).1 (pickS l1 l2 m1 m2 k).2 = true
  whole : wholeS l1 l2 m1 m2 ≤ r.hi - r.lo + 1
theorem fr_bounds {n d a b : Int} (h : ratP (n, d)) : (((a : Int) : Rat) ≤ fr (n, d) ↔ a * d ≤ n) ∧ (fr (n, d) ≤ ((b : Int) : Rat) ↔ n ≤ b * d) := by
  have d0 := ratP_pos h
  have dq : (0 : Rat) < (d : Rat) := by exact_mod_cast d0
  unfold fr
  rw [le_divR dq, div_leR dq]
  constructor
  · constructor
    · intro k
      have k' : ((a * d : Int) : Rat) ≤ ((n : Int) : Rat) := by push_cast; exact k
      exact_mod_cast k'
    · intro k
      have := le_cast k
      push_cast at this
      exact this
  · constructor
    · intro k
      have k' : ((n : Int) : Rat) ≤ ((b * d : Int) : Rat) := by push_cast; exact k
      exact_mod_cast k'
    · intro k
      have := le_cast k
      push_cast at this
      exact this
theorem whole_le {l1 l2 m1 m2 lo hi : Int} (h1 : 0 < l2) (h2 : 0 < m2) (hl : lo * l2 ≤ l1) (hh : m1 ≤ hi * m2) (hlh : lo ≤ hi + 1) : wholeS l1 l2 m1 m2 ≤ hi - lo + 1 := by
  have e1 : m1 / m2 ≤ hi := Int.ediv_le_of_le_mul h2 hh
  have e2 : lo ≤ ceilF l1 l2 := by
    unfold ceilF
    have : (-l1) / l2 ≤ -lo := Int.ediv_le_of_le_mul h1 (by rw [Int.neg_mul]; omega)
    omega
  unfold wholeS
  split
  · omega
  · omega
theorem held_law {r : RoomV} {e : List H3} {x y l1 l2 m1 m2 : Int} (D : RoomD r) (hx : -15 ≤ x ∧ x < 15) (hy : -15 ≤ y ∧ y < 15) (E : RobP r e) (h : admitR r r.ls x y 1 = (((l1, l2), (m1, m2)), true)) : HeldP r x y l1 l2 m1 m2 := by
  have lo := D.lo
  have hi := D.hi
  have k := room_ok D
  obtain ⟨h1, _⟩ := adm_set D hx hy (limits D).reg E.rob E.ne h
  obtain ⟨p1, p2, p3, p4⟩ := h1 rfl
  simp only at p1 p2 p3
  have wl : ratP (r.lo, 1) := whole_rat (by omega)
  have wh : ratP (r.hi, 1) := whole_rat (by omega)
  have hL := ((p4 (fr (l1, l2))).1 ⟨Rat.le_refl, p3⟩).1
  have hH := ((p4 (fr (m1, m2))).1 ⟨p3, Rat.le_refl⟩).1
  have ok : spanOk l1 l2 m1 m2 = true := by
    unfold spanOk
    simp only [Bool.and_eq_true, decide_eq_true_eq]
    exact ⟨⟨p1, p2⟩, (cmp_fr p1 p2).2 p3⟩
  have input : ∀ u v, inSpan l1 l2 m1 m2 u v = true → isInputR r u v = true := fun u v hs => by
    have hr := inSpan_rat hs
    obtain ⟨s1, s2⟩ := (inSpan_fr p1 p2 p3 hr).1 hs
    simp only at s1 s2
    obtain ⟨b1, b2⟩ := fr_bounds (a := r.lo) (b := r.hi) hr
    unfold isInputR
    simp only [Bool.and_eq_true]
    exact ⟨⟨k, hr⟩, inR_iff.2 ⟨b1.1 (by grind), b2.1 (by grind)⟩⟩
  refine ⟨ok, ?_, ?_, fun n n1 n2 => ?_, fun k' hk => ?_, ?_⟩
  · have q := (fr_bounds (a := r.lo) (b := r.hi) p1).1.1 hL.1
    exact (cmp_ge p1 wl).2 (show r.lo * l2 ≤ l1 * 1 by omega)
  · exact (cmp_fr p2 wh).2 (by rw [fr_one]; exact hH.2)
  · have wn : ratP (n, 1) := whole_rat (by omega)
    have si := inSpan_fr p1 p2 p3 wn
    rw [Bool.eq_iff_iff, si]
    constructor
    · intro hh
      obtain ⟨⟨_, a1, a2⟩, a3⟩ := held_in D E hh
      exact (p4 _).2 ⟨⟨a1, a2⟩, a3⟩
    · intro hs
      have := ((p4 _).1 hs).2
      rw [fr_one] at this
      exact in_held D E hx hy ⟨n1, n2⟩ this
  · have := pick_in ok hk
    exact ⟨this, input _ _ this⟩
  · have q1 := ratP_pos p1
    have q2 := ratP_pos p2
    exact whole_le q1 q2 ((fr_bounds (a := r.lo) (b := r.hi) p1).1.1 hL.1) ((fr_bounds (a := r.lo) (b := r.hi) p2).2.1 hH.2) (by omega)
theorem held_none {r : RoomV} {e : List H3} {x y n u : Int} {w : Q4} (D : RoomD r) (hx : -15 ≤ x ∧ x < 15) (hy : -15 ≤ y ∧ y < 15) (E : RobP r e) (h : admitR r r.ls x y 1 = (w, false)) : isHeldR r x y 1 n u r.ls = false := by
  rw [Bool.eq_false_iff]
  intro hh
  obtain ⟨⟨_, a1, a2⟩, a3⟩ := held_in D E hh
  exact (adm_set D hx hy (limits D).reg E.rob E.ne h).2 rfl _ a1 a2 a3
theorem centre_bd {r : RoomV} {p q : Int} (D : RoomD r) (h : centreR r = (p, q)) : (-1000000000000000000 ≤ p ∧ p ≤ 1000000000000000000) ∧ (0 ≤ q ∧ q ≤ 1000000000000000) := by
  unfold centreR at h
  rw [if_pos (room_ok D)] at h
  rcases ratOf_ok h with k | k
  · have := ratioOk_bd k
    omega
  · omega
theorem room_inl {r : RoomV} (D : RoomD r) : r.InL := by
  obtain ⟨e, f, g, he, hf, hg, hm⟩ := D.mq
  have := D.q; have := D.bx; have := D.by_; have := D.lo; have := D.hi
  have l1 := (noise_reg D).2.2
  have l2 := (limits D).len
  exact ⟨by rw [hm]; simp, by omega, by omega, by omega, by omega, by omega, by omega, by omega⟩
end Go.Proofs.YtabmfaamadbefaaGreat
/- FnHeld returns true for every argument, and leaves it as it was. No condition. -/
set_option linter.unusedVariables false
set_option linter.unusedSimpArgs false
set_option linter.unusedSectionVars false
namespace Go.Proofs.YtabmfaamadbefaaGreat
open Go.ChangeShapes Go.WideShapes Go.ChangeAt Go.RowKit Go.Joins
def GMod (n : Int) (w0 : World) (v : Value) (w : World) : Prop := ∃ z : Int, v = .int .i64 z ∧ (0 ≤ z ∧ z < n)
def GWish (w0 : World) (v : Value) (w : World) : Prop := ∃ k : Int, v = .int .i64 k ∧ (-20 ≤ k ∧ k ≤ 20)
def GPick (l1 l2 m1 m2 : Int) (w0 : World) (v : Value) (w : World) : Prop := ∃ k p1 p2 : Int, v = .agg #[.int .i64 p1, .int .i64 p2] ∧ -20 ≤ k ∧ k ≤ 20 ∧ pickS l1 l2 m1 m2 k = (p1, p2)
theorem rat_cells (n d : Int) : (Value.agg #[.int .i64 n, .int .i64 d]).cells.size = 2 ∧ ∀ x ∈ (Value.agg #[.int .i64 n, .int .i64 d]).cells.toList, x.oneCell' = true := ⟨rfl, by simp [Value.cells, Value.oneCell']⟩
theorem ow_flat {T : TypeId} {G : World → Value → World → Prop} (h : ∀ w0 v w w', G w0 v w → G w0 v w') : Owned T G := ⟨fun _ _ _ _ => h _ _ _ _, fun _ _ _ _ _ _ _ _ => h _ _ _ _⟩
theorem inspan_b {n d m e u v : Int} {b : Bool} {w : World} (h : Hid (inSpan n d m e u v = b)) (hn : -9223372036854775808 ≤ n ∧ n ≤ 9223372036854775807) (hd : -9223372036854775808 ≤ d ∧ d ≤ 9223372036854775807) (hm : -9223372036854775808 ≤ m ∧ m ≤ 9223372036854775807) (he : -9223372036854775808 ≤ e ∧ e ≤ 9223372036854775807) (hu : -9223372036854775808 ≤ u ∧ u ≤ 9223372036854775807) (hv : -9223372036854775808 ≤ v ∧ v ≤ 9223372036854775807) :
    Calls Tryz.prog 37 #[.agg #[.int .i64 n, .int .i64 d, .int .i64 m, .int .i64 e], .agg #[.int .i64 u, .int .i64 v]] w fun e' w' => e' = .returned (.bool b) ∧ Below w.heap.size w w' := by
  rw [← h.out]; exact impl_InSpan_any w hn hd hm he hu hv
theorem whole_b {n d m e k : Int} {w : World} (h : Hid (wholeS n d m e = k)) (hn : -9223372036854775808 ≤ n ∧ n ≤ 9223372036854775807) (hd : -9223372036854775808 ≤ d ∧ d ≤ 9223372036854775807) (hm : -9223372036854775808 ≤ m ∧ m ≤ 9223372036854775807) (he : -9223372036854775808 ≤ e ∧ e ≤ 9223372036854775807) :
    Calls Tryz.prog 40 #[.agg #[.int .i64 n, .int .i64 d, .int .i64 m, .int .i64 e]] w fun en w' => en = .returned (.int .i64 k) ∧ Below w.heap.size w w' := by
  rw [← h.out]; exact impl_WholeInputs_any w hn hd hm he

theorem bel_ {B : Nat} {a w : World} (h : Below B a w := by repeat (first | exact bR | refine bO ?_ | refine bA ?_ | refine bS ?_ | refine bD ?_ | refine bN ?_)) : Below B a w := h
set_option maxRecDepth 100000 in
set_option maxHeartbeats 8000000 in
theorem lawH_any {bs : List Int} {A : Option Addr} {c : Nat} (w : World) (Rcode : RY w A bs) (hlen : bs.length ≤ 9223372036854775807) :
    Calls Tryz.prog 7 #[.slice A bs.length c] w fun e w' => e = .returned (.bool true) ∧ Below w.heap.size w w' := by
  by_cases hm : 1048576 < bs.length
  · go_enter Tryz.func7, Tryz.ntmps7
    go_wp2
    go_ret
    exact ⟨rfl, bel_⟩
  replace hm : bs.length ≤ 1048576 := by omega
  go_enter Tryz.func7, Tryz.ntmps7
  go_wp2_with fail
  obtain ⟨V, hV⟩ : ∃ V, V = w := ⟨_, rfl⟩
  have TV : Below w.heap.size w V := by rw [hV]; exact Below.refl _ _
  have s0 : w.heap.size ≤ V.heap.size := TV.size
  obtain ⟨W0, hW⟩ : ∃ W0, W0 = w := ⟨_, rfl⟩
  rw [← hW]
  have T : Below V.heap.size V W0 := by rw [hW, hV]; exact Below.refl _ _
  clear hW hV
  have Scode := Rcode.below (TV.trans (T.mono s0))
  refine (MakeState_any (Scode.below bel_) hm).mono ?_
  rintro e W1 ⟨r, gr, cr1, Ar2, cr2, Ar3, cr3, sx, sy, rfl, Xr, D, hsx, hsy, hb⟩
  have K : Below W0.heap.size W0 W1 := Below.trans bel_ (hb.mono (by first | exact Nat.le_refl _ | simp [ov_size]))
  clear hb
  replace T := T.trans (K.mono T.size)
  clear K Scode
  have Scode := Rcode.below (TV.trans (T.mono s0))
  have hsr := short_room D
  go_wp2_with fail
  obtain ⟨W2, hW⟩ : ∃ W, (((W1.alloc (.cells #[.slice (some ⟨gr, 0, none⟩) r.m.length cr1, .int .i64 r.q, .int .i64 r.bx, .int .i64 r.by_, .int .i64 r.lo, .int .i64 r.hi, .slice Ar2 r.ns.length cr2, .slice Ar3 r.ls.length cr3] 28)).alloc (.cells #[.int .i64 sx, .int .i64 sy, .int .i64 1] 52)).alloc (.cells #[.slice Ar3 r.ls.length cr3] 26)) = W := ⟨_, rfl⟩
  rw [hW]
  have K : Below W1.heap.size W1 W2 := by rw [← hW]; exact bel_
  have Br := Lib.hid (show W2.heap[W1.heap.size]? = some (.cells #[.slice (some ⟨gr, 0, none⟩) r.m.length cr1, .int .i64 r.q, .int .i64 r.bx, .int .i64 r.by_, .int .i64 r.lo, .int .i64 r.hi, .slice Ar2 r.ns.length cr2, .slice Ar3 r.ls.length cr3] 28 (0, 0)) by rw [← hW]; exact ((heap_old_at (by first | (simp; done) | (simp <;> omega))).trans ((heap_old_at (by first | (simp; done) | (simp <;> omega))).trans (heap_new_at (by first | (simp; done) | (simp <;> omega)) rfl))))
  have Bs := Lib.hid (show W2.heap[W1.heap.size + 1]? = some (.cells #[.int .i64 sx, .int .i64 sy, .int .i64 1] 52 (0, 0)) by rw [← hW]; exact ((heap_old_at (by first | (simp; done) | (simp <;> omega))).trans (heap_new_at (by first | (simp; done) | (simp <;> omega)) rfl)))
  have Bp := Lib.hid (show W2.heap[W1.heap.size + 1 + 1]? = some (.cells #[.slice Ar3 r.ls.length cr3] 26 (0, 0)) by rw [← hW]; exact (heap_new_at (by first | (simp; done) | (simp <;> omega)) rfl))
  clear hW
  generalize W1.heap.size + 1 + 1 = bp at Bp ⊢
  generalize W1.heap.size + 1 = bs at Bs ⊢
  generalize W1.heap.size = br at Br ⊢
  replace T := T.trans (K.mono T.size)
  replace Xr := Xr.below K
  clear K Scode
  have Scode := Rcode.below (TV.trans (T.mono s0))
  obtain ⟨e, E⟩ := robust_room D
  obtain ⟨⟨⟨⟨l1, l2⟩, m1, m2⟩, okA⟩, hA⟩ : ∃ v, admitR r r.ls sx sy 1 = v := ⟨_, rfl⟩
  obtain ⟨⟨i1, i2⟩, hci⟩ : ∃ v, centreR r = v := ⟨_, rfl⟩
  have lr : r.ls.length ≤ 40 := by have := (limits D).len; omega
  have HRO := Lib.hid (room_ok D)
  have HA := Lib.hid hA
  have HCI := Lib.hid hci
  have HSO : spotOk sx sy 1 = true := wspot_ok (by omega) (by omega)
  have SB : SpotB sx sy 1 := ⟨by omega, by omega, by omega⟩
  obtain ⟨lo1, lo2⟩ := D.lo
  obtain ⟨hi1, hi2⟩ := D.hi
  have hInL := room_inl D
  clear hA
  refine (impl_AdmitAt_eq (by exact Xr.below bel_) hsr (by exact Xr.lr.below bel_) (by omega) SB HA).mono ?_
  rintro e W3 ⟨rfl, hb⟩
  have K : Below W2.heap.size W2 W3 := Below.trans bel_ (hb.mono (by first | exact Nat.le_refl _ | simp [ov_size]))
  clear hb
  replace T := T.trans (K.mono T.size)
  replace Br := box_below Br K
  replace Bs := box_below Bs K
  replace Bp := box_below Bp K
  replace Xr := Xr.below K
  clear K Scode
  have Scode := Rcode.below (TV.trans (T.mono s0))
  obtain ⟨Brc0, Brc1, Brc2, Brc3, Brc4, Brc5, Brc6, Brc7, Brl⟩ := cb8 Br
  obtain ⟨Bsc0, Bsc1, Bsc2, Bsl⟩ := cb3 Bs
  obtain ⟨Bpc0, Bpl⟩ := cb1 Bp
  go_wp2_with fail
  clear Brc0 Brc1 Brc2 Brc3 Brc4 Brc5 Brc6 Brc7 Bsc0 Bsc1 Bsc2 Bpc0 Brl Bsl Bpl
  obtain ⟨bw, hbx⟩ : ∃ b, b = W3.heap.size := ⟨_, rfl⟩
  rw [← hbx]
  obtain ⟨W4, hW⟩ : ∃ W, W = W3.alloc (.cells #[.int .i64 l1, .int .i64 l2, .int .i64 m1, .int .i64 m2] 61) := ⟨_, rfl⟩
  rw [← hW]
  have K : Below W3.heap.size W3 W4 := by rw [hW]; exact bel_
  have Bw := Lib.hid (show W4.heap[bw]? = some (.cells #[.int .i64 l1, .int .i64 l2, .int .i64 m1, .int .i64 m2] 61 (0, 0)) by rw [hW, hbx]; exact heap_alloc_new _ _)
  clear hW hbx
  replace T := T.trans (K.mono T.size)
  replace Br := box_below Br K
  replace Bs := box_below Bs K
  replace Bp := box_below Bp K
  replace Xr := Xr.below K
  clear K Scode
  have Scode := Rcode.below (TV.trans (T.mono s0))
  refine (calls_ov (impl_RoomOk_eq (by exact Xr.below bel_) hsr HRO)).mono ?_
  rintro e w' ⟨rfl, x9, rfl⟩
  obtain ⟨W5, hW⟩ : ∃ Z, Z = ov W4 x9 := ⟨_, rfl⟩
  rw [← hW]
  have K : Below W4.heap.size W4 W5 := by rw [hW]; exact bel_
  clear hW
  replace T := T.trans (K.mono T.size)
  replace Br := box_below Br K
  replace Bs := box_below Bs K
  replace Bp := box_below Bp K
  replace Bw := box_below Bw K
  replace Xr := Xr.below K
  clear K Scode
  have Scode := Rcode.below (TV.trans (T.mono s0))
  obtain ⟨Brc0, Brc1, Brc2, Brc3, Brc4, Brc5, Brc6, Brc7, Brl⟩ := cb8 Br
  obtain ⟨Bsc0, Bsc1, Bsc2, Bsl⟩ := cb3 Bs
  obtain ⟨Bpc0, Bpl⟩ := cb1 Bp
  obtain ⟨Bwc0, Bwc1, Bwc2, Bwc3, Bwl⟩ := cb4 Bw
  go_wp2_with fail
  clear Brc0 Brc1 Brc2 Brc3 Brc4 Brc5 Brc6 Brc7 Bsc0 Bsc1 Bsc2 Bpc0 Bwc0 Bwc1 Bwc2 Bwc3 Brl Bsl Bpl Bwl
  refine (calls_ov (impl_SpotOk_eq HSO (by omega) (by omega) (by omega))).mono ?_
  rintro e w' ⟨rfl, x9, rfl⟩
  obtain ⟨W6, hW⟩ : ∃ Z, Z = ov W5 x9 := ⟨_, rfl⟩
  rw [← hW]
  have K : Below W5.heap.size W5 W6 := by rw [hW]; exact bel_
  clear hW
  replace T := T.trans (K.mono T.size)
  replace Br := box_below Br K
  replace Bs := box_below Bs K
  replace Bp := box_below Bp K
  replace Bw := box_below Bw K
  replace Xr := Xr.below K
  clear K Scode
  have Scode := Rcode.below (TV.trans (T.mono s0))
  cases okA with
  | false =>
    have SU : SpotB i1 i2 0 := by
      have b := centre_bd D hci
      exact ⟨by omega, by omega, by omega⟩
    have HN := Lib.hid (held_none (n := i1) (u := i2) D hsx hsy E HA.out)
    clear hci
    obtain ⟨Brc0, Brc1, Brc2, Brc3, Brc4, Brc5, Brc6, Brc7, Brl⟩ := cb8 Br
    obtain ⟨Bsc0, Bsc1, Bsc2, Bsl⟩ := cb3 Bs
    obtain ⟨Bpc0, Bpl⟩ := cb1 Bp
    obtain ⟨Bwc0, Bwc1, Bwc2, Bwc3, Bwl⟩ := cb4 Bw
    go_wp2_with fail
    clear Brc0 Brc1 Brc2 Brc3 Brc4 Brc5 Brc6 Brc7 Bsc0 Bsc1 Bsc2 Bpc0 Bwc0 Bwc1 Bwc2 Bwc3 Brl Bsl Bpl Bwl
    obtain ⟨Brc0, Brc1, Brc2, Brc3, Brc4, Brc5, Brc6, Brc7, Brl⟩ := cb8 Br
    obtain ⟨Bsc0, Bsc1, Bsc2, Bsl⟩ := cb3 Bs
    obtain ⟨Bpc0, Bpl⟩ := cb1 Bp
    obtain ⟨Bwc0, Bwc1, Bwc2, Bwc3, Bwl⟩ := cb4 Bw
    ((first | (with_reducible refine wp_region_calm2 (by kernel_rfl) (by kernel_rfl) ?_) | refine wp_region_calm (by kernel_rfl) (by kernel_rfl) ?_); (repeat (go_big_quiet_step (first | (go_at_call 33; exact calm_below (impl_CentreInput_eq (by exact Xr.below bel_) hsr HCI)) | (go_at_call 32; exact calm_below (impl_IsHeld_eq (by exact Xr.below bel_) hsr (by exact Xr.lr.below bel_) hInL (by omega) SB SU HN))))); refine wpQuiet_nil ?_; rintro _ ⟨y, rfl⟩)
    clear Brc0 Brc1 Brc2 Brc3 Brc4 Brc5 Brc6 Brc7 Bsc0 Bsc1 Bsc2 Bpc0 Bwc0 Bwc1 Bwc2 Bwc3 Brl Bsl Bpl Bwl
    obtain ⟨W7, hW⟩ : ∃ Z, Z = ov W6 y := ⟨_, rfl⟩
    rw [← hW]
    have K : Below W6.heap.size W6 W7 := by rw [hW]; exact bel_
    clear hW
    replace T := T.trans (K.mono T.size)
    replace Br := box_below Br K
    replace Bs := box_below Bs K
    replace Bp := box_below Bp K
    replace Bw := box_below Bw K
    replace Xr := Xr.below K
    clear K Scode
    have Scode := Rcode.below (TV.trans (T.mono s0))
    obtain ⟨Brc0, Brc1, Brc2, Brc3, Brc4, Brc5, Brc6, Brc7, Brl⟩ := cb8 Br
    obtain ⟨Bsc0, Bsc1, Bsc2, Bsl⟩ := cb3 Bs
    obtain ⟨Bpc0, Bpl⟩ := cb1 Bp
    obtain ⟨Bwc0, Bwc1, Bwc2, Bwc3, Bwl⟩ := cb4 Bw
    go_wp2
    go_ret
    exact ⟨rfl, (by repeat (first | exact TV.trans (T.mono s0) | refine bO ?_ | refine bA ?_ | refine bS ?_ | refine bD ?_ | refine bN ?_))⟩
  | true =>
    clear hci
    have HP := held_law D hsx hsy E HA.out
    have b1 := ratioOk_bd (spanOk_both HP.ok).1
    have b2 := ratioOk_bd (spanOk_both HP.ok).2
    have HSP := HP.ok
    obtain ⟨v1, hv1⟩ : ∃ v, ratioCmp l1 l2 r.lo 1 = v := ⟨_, rfl⟩
    obtain ⟨v2, hv2⟩ : ∃ v, ratioCmp m1 m2 r.hi 1 = v := ⟨_, rfl⟩
    have hd1 : decide (v1 < 0) = false := decide_eq_false (by have := HP.low; omega)
    have hd2 : decide (0 < v2) = false := decide_eq_false (by have := HP.high; omega)
    have HV1 := Lib.hid hv1
    have HV2 := Lib.hid hv2
    have HLO := Lib.hid (ratOf_one (n := r.lo) (by omega))
    have HHI := Lib.hid (ratOf_one (n := r.hi) (by omega))
    have HHP := Lib.hid HP
    clear hv1 hv2 HP
    obtain ⟨Brc0, Brc1, Brc2, Brc3, Brc4, Brc5, Brc6, Brc7, Brl⟩ := cb8 Br
    obtain ⟨Bsc0, Bsc1, Bsc2, Bsl⟩ := cb3 Bs
    obtain ⟨Bpc0, Bpl⟩ := cb1 Bp
    obtain ⟨Bwc0, Bwc1, Bwc2, Bwc3, Bwl⟩ := cb4 Bw
    go_wp2_with fail
    clear Brc0 Brc1 Brc2 Brc3 Brc4 Brc5 Brc6 Brc7 Bsc0 Bsc1 Bsc2 Bpc0 Bwc0 Bwc1 Bwc2 Bwc3 Brl Bsl Bpl Bwl
    obtain ⟨Brc0, Brc1, Brc2, Brc3, Brc4, Brc5, Brc6, Brc7, Brl⟩ := cb8 Br
    obtain ⟨Bsc0, Bsc1, Bsc2, Bsl⟩ := cb3 Bs
    obtain ⟨Bpc0, Bpl⟩ := cb1 Bp
    obtain ⟨Bwc0, Bwc1, Bwc2, Bwc3, Bwl⟩ := cb4 Bw
    ((first | (with_reducible refine wp_region_calm2 (by kernel_rfl) (by kernel_rfl) ?_) | refine wp_region_calm (by kernel_rfl) (by kernel_rfl) ?_); (repeat (go_big_quiet_step (first | (go_at_call 34; exact calm_below (impl_SpanOk_eq HSP (by omega) (by omega) (by omega) (by omega))) | (go_at_call 36; exact calm_below (impl_RatioOf_eq HLO (by omega) (by omega))) | (go_at_call 36; exact calm_below (impl_RatioOf_eq HHI (by omega) (by omega))) | (go_at_call 35; exact calm_below (impl_RatioCmp_v HV1 (by omega) (by omega) (by omega) (by omega))) | (go_at_call 35; exact calm_below (impl_RatioCmp_v HV2 (by omega) (by omega) (by omega) (by omega)))))); refine wpQuiet_nil ?_; rintro _ ⟨y, rfl⟩)
    clear Brc0 Brc1 Brc2 Brc3 Brc4 Brc5 Brc6 Brc7 Bsc0 Bsc1 Bsc2 Bpc0 Bwc0 Bwc1 Bwc2 Bwc3 Brl Bsl Bpl Bwl
    obtain ⟨W8, hW⟩ : ∃ Z, Z = ov W6 y := ⟨_, rfl⟩
    rw [← hW]
    have K : Below W6.heap.size W6 W8 := by rw [hW]; exact bel_
    clear hW
    replace T := T.trans (K.mono T.size)
    replace Br := box_below Br K
    replace Bs := box_below Bs K
    replace Bp := box_below Bp K
    replace Bw := box_below Bw K
    replace Xr := Xr.below K
    clear K Scode
    have Scode := Rcode.below (TV.trans (T.mono s0))
    obtain ⟨Brc0, Brc1, Brc2, Brc3, Brc4, Brc5, Brc6, Brc7, Brl⟩ := cb8 Br
    obtain ⟨Bsc0, Bsc1, Bsc2, Bsl⟩ := cb3 Bs
    obtain ⟨Bpc0, Bpl⟩ := cb1 Bp
    obtain ⟨Bwc0, Bwc1, Bwc2, Bwc3, Bwl⟩ := cb4 Bw
    go_wp2
    clear Brc0 Brc1 Brc2 Brc3 Brc4 Brc5 Brc6 Brc7 Bsc0 Bsc1 Bsc2 Bpc0 Bwc0 Bwc1 Bwc2 Bwc3 Brl Bsl Bpl Bwl
    go_loopw [8] (fun i wr => ∃ n : Int, r.lo ≤ n ∧ n ≤ r.hi + 1 ∧ i = .int .i64 n ∧ Below W8.heap.size W8 wr) (fun i _ => (r.hi + 1 - intOf i).toNat)
    case atStart => exact ⟨r.lo, by omega, by omega, rfl, Below.refl _ _⟩
    case round =>
      obtain ⟨n, hn1, hn2, rfl, hb0⟩ := hrel
      have K := hb0
      obtain ⟨W50, hW⟩ : ∃ Z, Z = wr := ⟨_, rfl⟩
      rw [← hW] at K hb0 ⊢
      clear hW
      have TC := hb0
      replace T := T.trans (K.mono T.size)
      replace Br := box_below Br K
      replace Bs := box_below Bs K
      replace Bp := box_below Bp K
      replace Bw := box_below Bw K
      replace Xr := Xr.below K
      clear K Scode
      have Scode := Rcode.below (TV.trans (T.mono s0))
      by_cases hlt : n ≤ r.hi
      · skip
        have hlp := HHP.out.loop n hn1 hlt
        obtain ⟨hv, hh⟩ : ∃ t, inSpan l1 l2 m1 m2 n 1 = t := ⟨_, rfl⟩
        rw [hh] at hlp
        have HN := Lib.hid (ratOf_one (n := n) (by omega))
        have H1 := Lib.hid hlp
        have H2 := Lib.hid hh
        have SU : SpotB n 1 0 := ⟨by omega, by omega, by omega⟩
        clear hlp hh
        obtain ⟨Brc0, Brc1, Brc2, Brc3, Brc4, Brc5, Brc6, Brc7, Brl⟩ := cb8 Br
        obtain ⟨Bsc0, Bsc1, Bsc2, Bsl⟩ := cb3 Bs
        obtain ⟨Bpc0, Bpl⟩ := cb1 Bp
        obtain ⟨Bwc0, Bwc1, Bwc2, Bwc3, Bwl⟩ := cb4 Bw
        go_wp2_with fail
        clear Brc0 Brc1 Brc2 Brc3 Brc4 Brc5 Brc6 Brc7 Bsc0 Bsc1 Bsc2 Bpc0 Bwc0 Bwc1 Bwc2 Bwc3 Brl Bsl Bpl Bwl
        refine (calls_ov (impl_RatioOf_eq HN (by omega) (by omega))).mono ?_
        rintro e w' ⟨rfl, x9, rfl⟩
        obtain ⟨W51, hW⟩ : ∃ Z, Z = ov W50 x9 := ⟨_, rfl⟩
        rw [← hW]
        have K : Below W50.heap.size W50 W51 := by rw [hW]; exact bel_
        clear hW
        replace TC := TC.trans (K.mono TC.size)
        replace T := T.trans (K.mono T.size)
        replace Br := box_below Br K
        replace Bs := box_below Bs K
        replace Bp := box_below Bp K
        replace Bw := box_below Bw K
        replace Xr := Xr.below K
        clear K Scode
        have Scode := Rcode.below (TV.trans (T.mono s0))
        obtain ⟨Brc0, Brc1, Brc2, Brc3, Brc4, Brc5, Brc6, Brc7, Brl⟩ := cb8 Br
        obtain ⟨Bsc0, Bsc1, Bsc2, Bsl⟩ := cb3 Bs
        obtain ⟨Bpc0, Bpl⟩ := cb1 Bp
        obtain ⟨Bwc0, Bwc1, Bwc2, Bwc3, Bwl⟩ := cb4 Bw
        go_wp2_with fail
        clear Brc0 Brc1 Brc2 Brc3 Brc4 Brc5 Brc6 Brc7 Bsc0 Bsc1 Bsc2 Bpc0 Bwc0 Bwc1 Bwc2 Bwc3 Brl Bsl Bpl Bwl
        obtain ⟨bu, hbx⟩ : ∃ b, b = W51.heap.size := ⟨_, rfl⟩
        rw [← hbx]
        obtain ⟨W52, hW⟩ : ∃ W, W = W51.alloc (.cells #[.int .i64 n, .int .i64 1] 54) := ⟨_, rfl⟩
        rw [← hW]
        have K : Below W51.heap.size W51 W52 := by rw [hW]; exact bel_
        have Bu := Lib.hid (show W52.heap[bu]? = some (.cells #[.int .i64 n, .int .i64 1] 54 (0, 0)) by rw [hW, hbx]; exact heap_alloc_new _ _)
        clear hW hbx
        replace TC := TC.trans (K.mono TC.size)
        replace T := T.trans (K.mono T.size)
        replace Br := box_below Br K
        replace Bs := box_below Bs K
        replace Bp := box_below Bp K
        replace Bw := box_below Bw K
        replace Xr := Xr.below K
        clear K Scode
        have Scode := Rcode.below (TV.trans (T.mono s0))
        cases hv with
        | false =>
          obtain ⟨Brc0, Brc1, Brc2, Brc3, Brc4, Brc5, Brc6, Brc7, Brl⟩ := cb8 Br
          obtain ⟨Bsc0, Bsc1, Bsc2, Bsl⟩ := cb3 Bs
          obtain ⟨Bpc0, Bpl⟩ := cb1 Bp
          obtain ⟨Bwc0, Bwc1, Bwc2, Bwc3, Bwl⟩ := cb4 Bw
          obtain ⟨Buc0, Buc1, Bul⟩ := cb2 Bu
          ((first | (with_reducible refine wp_region_calm2 (by kernel_rfl) (by kernel_rfl) ?_) | refine wp_region_calm (by kernel_rfl) (by kernel_rfl) ?_); (repeat (go_big_quiet_step (first | (go_at_call 32; exact calm_below (impl_IsHeld_eq (by exact Xr.below bel_) hsr (by exact Xr.lr.below bel_) hInL (by omega) SB SU H1)) | (go_at_call 37; exact calm_below (inspan_b H2 (by omega) (by omega) (by omega) (by omega) (by omega) (by omega)))))); refine wpQuiet_nil ?_; rintro _ ⟨y, rfl⟩)
          clear Brc0 Brc1 Brc2 Brc3 Brc4 Brc5 Brc6 Brc7 Bsc0 Bsc1 Bsc2 Bpc0 Bwc0 Bwc1 Bwc2 Bwc3 Buc0 Buc1 Brl Bsl Bpl Bwl Bul
          obtain ⟨W53, hW⟩ : ∃ Z, Z = ov W52 y := ⟨_, rfl⟩
          rw [← hW]
          have K : Below W52.heap.size W52 W53 := by rw [hW]; exact bel_
          clear hW
          replace TC := TC.trans (K.mono TC.size)
          replace T := T.trans (K.mono T.size)
          replace Br := box_below Br K
          replace Bs := box_below Bs K
          replace Bp := box_below Bp K
          replace Bw := box_below Bw K
          replace Bu := box_below Bu K
          replace Xr := Xr.below K
          clear K Scode
          have Scode := Rcode.below (TV.trans (T.mono s0))
          have TCs := TC.size
          obtain ⟨Brc0, Brc1, Brc2, Brc3, Brc4, Brc5, Brc6, Brc7, Brl⟩ := cb8 Br
          obtain ⟨Bsc0, Bsc1, Bsc2, Bsl⟩ := cb3 Bs
          obtain ⟨Bpc0, Bpl⟩ := cb1 Bp
          obtain ⟨Bwc0, Bwc1, Bwc2, Bwc3, Bwl⟩ := cb4 Bw
          obtain ⟨Buc0, Buc1, Bul⟩ := cb2 Bu
          go_wp2
          go_roundw
          case rel => exact ⟨n + 1, by omega, by omega, by go_num, (by repeat (first | exact TC | refine bO ?_ | refine bA ?_ | refine bS ?_ | refine bD ?_ | refine bN ?_))⟩
          case measure => simp [intOf]; omega
        | true =>
          obtain ⟨Brc0, Brc1, Brc2, Brc3, Brc4, Brc5, Brc6, Brc7, Brl⟩ := cb8 Br
          obtain ⟨Bsc0, Bsc1, Bsc2, Bsl⟩ := cb3 Bs
          obtain ⟨Bpc0, Bpl⟩ := cb1 Bp
          obtain ⟨Bwc0, Bwc1, Bwc2, Bwc3, Bwl⟩ := cb4 Bw
          obtain ⟨Buc0, Buc1, Bul⟩ := cb2 Bu
          ((first | (with_reducible refine wp_region_calm2 (by kernel_rfl) (by kernel_rfl) ?_) | refine wp_region_calm (by kernel_rfl) (by kernel_rfl) ?_); (repeat (go_big_quiet_step (first | (go_at_call 32; exact calm_below (impl_IsHeld_eq (by exact Xr.below bel_) hsr (by exact Xr.lr.below bel_) hInL (by omega) SB SU H1)) | (go_at_call 37; exact calm_below (inspan_b H2 (by omega) (by omega) (by omega) (by omega) (by omega) (by omega)))))); refine wpQuiet_nil ?_; rintro _ ⟨y, rfl⟩)
          clear Brc0 Brc1 Brc2 Brc3 Brc4 Brc5 Brc6 Brc7 Bsc0 Bsc1 Bsc2 Bpc0 Bwc0 Bwc1 Bwc2 Bwc3 Buc0 Buc1 Brl Bsl Bpl Bwl Bul
          obtain ⟨W54, hW⟩ : ∃ Z, Z = ov W52 y := ⟨_, rfl⟩
          rw [← hW]
          have K : Below W52.heap.size W52 W54 := by rw [hW]; exact bel_
          clear hW
          replace TC := TC.trans (K.mono TC.size)
          replace T := T.trans (K.mono T.size)
          replace Br := box_below Br K
          replace Bs := box_below Bs K
          replace Bp := box_below Bp K
          replace Bw := box_below Bw K
          replace Bu := box_below Bu K
          replace Xr := Xr.below K
          clear K Scode
          have Scode := Rcode.below (TV.trans (T.mono s0))
          have TCs := TC.size
          obtain ⟨Brc0, Brc1, Brc2, Brc3, Brc4, Brc5, Brc6, Brc7, Brl⟩ := cb8 Br
          obtain ⟨Bsc0, Bsc1, Bsc2, Bsl⟩ := cb3 Bs
          obtain ⟨Bpc0, Bpl⟩ := cb1 Bp
          obtain ⟨Bwc0, Bwc1, Bwc2, Bwc3, Bwl⟩ := cb4 Bw
          obtain ⟨Buc0, Buc1, Bul⟩ := cb2 Bu
          go_wp2
          go_roundw
          case rel => exact ⟨n + 1, by omega, by omega, by go_num, (by repeat (first | exact TC | refine bO ?_ | refine bA ?_ | refine bS ?_ | refine bD ?_ | refine bN ?_))⟩
          case measure => simp [intOf]; omega
      · have HF := TV.trans (T.mono s0)
        have OM1 := ow_flat (T := 54) (G := GMod 65536) (fun _ _ _ _ h => h)
        have OM2 := ow_flat (T := 54) (G := GMod 40) (fun _ _ _ _ h => h)
        have OW := ow_flat (T := 54) (G := GWish) (fun _ _ _ _ h => h)
        have OP := ow_flat (T := 54) (G := GPick l1 l2 m1 m2) (fun _ _ _ _ h => h)
        obtain ⟨Brc0, Brc1, Brc2, Brc3, Brc4, Brc5, Brc6, Brc7, Brl⟩ := cb8 Br
        obtain ⟨Bsc0, Bsc1, Bsc2, Bsl⟩ := cb3 Bs
        obtain ⟨Bpc0, Bpl⟩ := cb1 Bp
        obtain ⟨Bwc0, Bwc1, Bwc2, Bwc3, Bwl⟩ := cb4 Bw
        go_wp2
        refine wp_region_rel [.pur [] ?k0, .pur [] ?k1, .rel [] [2] false (IsOw (GMod 65536)), .rel [2] [3] false (IsOw (GMod 40)), .rel [3] [4] false (IsOw GWish), .rel [4] [5] false (IsOw (GPick l1 l2 m1 m2)), .rel [] [6] false (IsAl 54 2), .rel [6, 5] [6, 5] true (IsSt 54)] _ rfl rfl (by kernel_rfl) (by kernel_rfl) ?hst (fun vs => ?walk)
        case' walk =>
          (refine wpRel_pur rfl rfl (fun x => by ((go_wp2); refine relEnd_pur rfl ?_ (by repeat (first | exact bR | refine bO ?_ | refine bA ?_ | refine bS ?_ | refine bD ?_ | refine bN ?_)); simp only [Act.put, List.setIfInBounds_toArray, List.set_cons_succ, List.set_cons_zero]; rfl)) ?_; simp only [Act.put, List.setIfInBounds_toArray, List.set_cons_succ, List.set_cons_zero])
          (refine wpRel_pur rfl rfl (fun x => by ((go_wp2); refine relEnd_pur rfl ?_ (by repeat (first | exact bR | refine bO ?_ | refine bA ?_ | refine bS ?_ | refine bD ?_ | refine bN ?_)); simp only [Act.put, List.setIfInBounds_toArray, List.set_cons_succ, List.set_cons_zero]; rfl)) ?_; simp only [Act.put, List.setIfInBounds_toArray, List.set_cons_succ, List.set_cons_zero])
          refine wpRel_own rfl rfl rfl (fun x hh => ?_) ?_
          · go_wp2_with fail
            refine (MakeNum_any (n := 60) (Scode.below bel_) hm ⟨by omega, by omega⟩).mono ?_
            rintro e w7 ⟨z, rfl, ⟨z0, z1⟩, hb7⟩
            go_wp2
            refine relEnd_ow rfl rfl ?_ hb7 ⟨z, rfl, z0, by omega⟩
            (simp only [Act.put, List.setIfInBounds_toArray, List.set_cons_succ, List.set_cons_zero] <;> rfl)
          simp only [Act.put, List.setIfInBounds_toArray, List.set_cons_succ, List.set_cons_zero]
          refine wpRel_own rfl rfl rfl (fun x hh => ?_) ?_
          · obtain ⟨z, f, z0, z1⟩ := isOw_at (hh 2 (by simp)) rfl
            simp only [f]
            go_wp2
            refine relEnd_ow rfl rfl ?_ (Below.refl _ _) ⟨z % 40, rfl, by omega, by omega⟩
            (simp only [Act.put, List.setIfInBounds_toArray, List.set_cons_succ, List.set_cons_zero] <;> rfl)
          simp only [Act.put, List.setIfInBounds_toArray, List.set_cons_succ, List.set_cons_zero]
          refine wpRel_own rfl rfl rfl (fun x hh => ?_) ?_
          · obtain ⟨z, f, z0, z1⟩ := isOw_at (hh 3 (by simp)) rfl
            simp only [f]
            go_wp2
            refine relEnd_ow rfl rfl ?_ (Below.refl _ _) ⟨z - 20, rfl, by omega, by omega⟩
            (simp only [Act.put, List.setIfInBounds_toArray, List.set_cons_succ, List.set_cons_zero] <;> rfl)
          simp only [Act.put, List.setIfInBounds_toArray, List.set_cons_succ, List.set_cons_zero]
          refine wpRel_own rfl rfl rfl (fun x hh => ?_) ?_
          · obtain ⟨k, f, k0, k1⟩ := isOw_at (hh 4 (by simp)) rfl
            simp only [f]
            obtain ⟨⟨p1, p2⟩, hpk⟩ : ∃ v, pickS l1 l2 m1 m2 k = v := ⟨_, rfl⟩
            go_wp2_with fail
            refine (impl_PickInput_eq (by omega) (by omega) (by omega) (by omega) (by omega) (Lib.hid hpk)).mono ?_
            rintro e w7 ⟨rfl, hb7⟩
            go_wp2
            refine relEnd_ow rfl rfl ?_ hb7 ⟨k, p1, p2, rfl, by omega, by omega, hpk⟩
            (simp only [Act.put, List.setIfInBounds_toArray, List.set_cons_succ, List.set_cons_zero] <;> rfl)
          simp only [Act.put, List.setIfInBounds_toArray, List.set_cons_succ, List.set_cons_zero]
          refine wpRel_al #[.int .i64 0, .int .i64 0] rfl rfl rfl rfl rfl rfl (fun w => by simp [go_sem]) ?_
          simp only [Act.put, List.setIfInBounds_toArray, List.set_cons_succ, List.set_cons_zero]
          refine wpRel_so rfl rfl rfl rfl rfl rfl (by decide) (by decide) rfl rfl (by kernel_rfl) (fun w hw => by obtain ⟨k, p1, p2, f, _⟩ := hw; rw [f]; exact rat_cells _ _) (by repeat (first | exact all_nil | refine all_cons trivial ?_ | refine all_cons isAl_steady ?_ | refine all_cons (isOw_steady (by assumption)) ?_)) ?_
          refine wpRelE_nilB0 (fun W55 K hh => ?_)
          obtain ⟨bu, e, hb, hx⟩ := isSt_own (hh 7) rfl rfl rfl
          obtain ⟨kw, k1, k2, f, kw0, kw1, hpk⟩ := isOw_at (hh 5) rfl
          rw [f] at hx
          simp only [e]
          have Bu := Lib.hid hx
          clear hh e f hx hb OM1 OM2 OW OP
          clear Brc0 Brc1 Brc2 Brc3 Brc4 Brc5 Brc6 Brc7 Bsc0 Bsc1 Bsc2 Bpc0 Bwc0 Bwc1 Bwc2 Bwc3 Brl Bsl Bpl Bwl
          replace T := T.trans (K.mono T.size)
          replace Br := box_below Br K
          replace Bs := box_below Bs K
          replace Bp := box_below Bp K
          replace Bw := box_below Bw K
          replace Xr := Xr.below K
          clear K Scode
          have Scode := Rcode.below (TV.trans (T.mono s0))
          obtain ⟨hp1, hp2⟩ := HHP.out.pick kw (by omega)
          rw [hpk] at hp1 hp2
          have b3 := ratioOk_bd (inSpan_rat hp1)
          have HP1 := Lib.hid hp1
          have HP2 := Lib.hid hp2
          obtain ⟨wn, hwn⟩ : ∃ v, wholeS l1 l2 m1 m2 = v := ⟨_, rfl⟩
          have hwl := HHP.out.whole
          rw [hwn] at hwl
          have HWN := Lib.hid hwn
          have hwd : decide (wn ≤ r.hi - r.lo + 1) = true := decide_eq_true hwl
          clear hpk hp1 hp2 hwn
          obtain ⟨Brc0, Brc1, Brc2, Brc3, Brc4, Brc5, Brc6, Brc7, Brl⟩ := cb8 Br
          obtain ⟨Bsc0, Bsc1, Bsc2, Bsl⟩ := cb3 Bs
          obtain ⟨Bpc0, Bpl⟩ := cb1 Bp
          obtain ⟨Bwc0, Bwc1, Bwc2, Bwc3, Bwl⟩ := cb4 Bw
          obtain ⟨Buc0, Buc1, Bul⟩ := cb2 Bu
          go_wp2_with fail
          clear Brc0 Brc1 Brc2 Brc3 Brc4 Brc5 Brc6 Brc7 Bsc0 Bsc1 Bsc2 Bpc0 Bwc0 Bwc1 Bwc2 Bwc3 Buc0 Buc1 Brl Bsl Bpl Bwl Bul
          obtain ⟨Brc0, Brc1, Brc2, Brc3, Brc4, Brc5, Brc6, Brc7, Brl⟩ := cb8 Br
          obtain ⟨Bsc0, Bsc1, Bsc2, Bsl⟩ := cb3 Bs
          obtain ⟨Bpc0, Bpl⟩ := cb1 Bp
          obtain ⟨Bwc0, Bwc1, Bwc2, Bwc3, Bwl⟩ := cb4 Bw
          obtain ⟨Buc0, Buc1, Bul⟩ := cb2 Bu
          ((first | (with_reducible refine wp_region_calm2 (by kernel_rfl) (by kernel_rfl) ?_) | refine wp_region_calm (by kernel_rfl) (by kernel_rfl) ?_); (repeat (go_big_quiet_step (first | (go_at_call 37; exact calm_below (inspan_b HP1 (by omega) (by omega) (by omega) (by omega) (by omega) (by omega))) | (go_at_call 39; exact calm_below (impl_IsInput_eq (by exact Xr.below bel_) hsr hInL (by omega) (by omega) HP2)) | (go_at_call 40; exact calm_below (whole_b HWN (by omega) (by omega) (by omega) (by omega)))))); refine wpQuiet_nil ?_; rintro _ ⟨y, rfl⟩)
          clear Brc0 Brc1 Brc2 Brc3 Brc4 Brc5 Brc6 Brc7 Bsc0 Bsc1 Bsc2 Bpc0 Bwc0 Bwc1 Bwc2 Bwc3 Buc0 Buc1 Brl Bsl Bpl Bwl Bul
          obtain ⟨W56, hW⟩ : ∃ Z, Z = ov W55 y := ⟨_, rfl⟩
          rw [← hW]
          have K : Below W55.heap.size W55 W56 := by rw [hW]; exact bel_
          clear hW
          replace T := T.trans (K.mono T.size)
          replace Br := box_below Br K
          replace Bs := box_below Bs K
          replace Bp := box_below Bp K
          replace Bw := box_below Bw K
          replace Bu := box_below Bu K
          replace Xr := Xr.below K
          clear K Scode
          have Scode := Rcode.below (TV.trans (T.mono s0))
          obtain ⟨Brc0, Brc1, Brc2, Brc3, Brc4, Brc5, Brc6, Brc7, Brl⟩ := cb8 Br
          obtain ⟨Bsc0, Bsc1, Bsc2, Bsl⟩ := cb3 Bs
          obtain ⟨Bpc0, Bpl⟩ := cb1 Bp
          obtain ⟨Bwc0, Bwc1, Bwc2, Bwc3, Bwl⟩ := cb4 Bw
          obtain ⟨Buc0, Buc1, Bul⟩ := cb2 Bu
          go_wp2
          go_ret
          exact ⟨rfl, (by repeat (first | exact TV.trans (T.mono s0) | refine bO ?_ | refine bA ?_ | refine bS ?_ | refine bD ?_ | refine bN ?_))⟩
        case' hst => exact (by repeat (first | exact all_nil | refine all_cons trivial ?_ | refine all_cons isAl_stable ?_ | refine all_cons isSt_stable ?_ | refine all_cons isStB_stable ?_ | refine all_cons (isOw_stable (by assumption)) ?_))
set_option maxRecDepth 100000 in
theorem FnHeld_lifted (os : Os) (started : os.Started) (H : Type) (enc : TypeId × Value → H) :
    ReturnsInHanded {} Tryz.checked os 7 .any (Rows.fnHeldSpec.pre6 enc Tryz.prog Tryz.f7 Rows.fnHeldRow.domain false) (Rows.fnHeldSpec.post enc Tryz.prog Tryz.f7 false true false false) := by
  refine returnsInHanded_of_change (C := Tryz.checked) own started (by kernel_rfl) Tryz.func7
    (ChangeSpec.witness6 (enc := enc) (C := Tryz.checked) false ⟨#[], #[.slice none 0 0], []⟩ 8 (by kernel_rfl) (by kernel_rfl) (by kernel_rfl) (by kernel_rfl)) ?_
  intro W base args ds gs before hval0 hW hcnd _
  have hval : ∀ (j : Nat) t v, Tryz.f7.params[j]? = some t → args[j]? = some v → Value.okWide Tryz.prog W .any base t v := hval0
  have hW' := hW
  obtain ⟨p, q, hA0, hV, rfl, hfz, hnd⟩ := hW
  have hA : DataW.TrodAll enc Tryz.prog W 0 (fun _ => true) true Tryz.f7.params.toList args.toList ds p := hA0
  rw [Tryz.params7] at hA hval
  obtain ⟨v0, vs0, d0, ds0, p0, q0, hargs0, rfl, rfl, h0, r0⟩ := trodAll_cons hA
  obtain ⟨rfl, rfl, rfl⟩ := trodAll_nil r0
  obtain rfl : args = #[v0] := by cases args; simp_all
  obtain ⟨rfl, rfl⟩ := trodVars_none hV
  have k0 := h0
  have lt0 : ∀ x ∈ p0, x.block < W.heap.size := by obtain ⟨m, hm⟩ := k0; exact DataW.trod_lt m _ _ _ hm
  have hv0 := hval 0 22 v0 rfl rfl
  obtain ⟨A0, c0, xs0, rfl, RR0, hlen0⟩ := open_bytes hv0 h0
  clear hA0 hval0
  refine (lawH_any W RR0 hlen0).mono fun e W' ⟨he, bel⟩ => ?_
  subst he
  exact ⟨_, rfl, _, _, _, [], _, [], hW', trodAll_mk1 (shut_bool Tryz.underlying4 _), (trodAll_cons_mk (Below.trod laidOut (by kernel_rfl) (of_decide_eq_true (by kernel_rfl)) k0 bel lt0) trodAll_mk0), rfl, bel.frame _, fun h => by cases h⟩

theorem FnHeld_holds : Rows.FnHeldSaid :=
  OpenClaim.holds_of_wide 7 Tryz.f7 rfl rfl rfl rfl rfl rfl rfl ⟨rfl, rfl, rfl, rfl, rfl⟩ rfl rfl rfl rfl rfl (by kernel_rfl) Tryz.func7 (by kernel_rfl)
    (of_decide_eq_true (by kernel_rfl)) (by unfold Func.isWrapper; first | (rw [if_pos (by decide +kernel)]; kernel_rfl) | (rw [if_neg (by decide +kernel)]; exact ⟨rfl, rfl⟩))
    (fun os started H enc _ => FnHeld_lifted os started H enc)
#print axioms FnHeld_holds
end Go.Proofs.YtabmfaamadbefaaGreat