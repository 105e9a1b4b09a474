/- Half planes and points of the plane, no program: on the border of a half plane of a list lies more than one point of all of them exactly if its crossings with the others leave room. Condition: no direction is zero. -/
import Derived.Test.YtnenlgaafiifpaaGeoA
namespace Go.Proofs.Ytnenlgaafiifpaa

structure Pt where
  x : Rat
  y : Rat

def val (h : H3) (p : Pt) : Rat := (h.a : Rat) * p.x + (h.b : Rat) * p.y
def prm (h : H3) (p : Pt) : Rat := (h.a : Rat) * p.y - (h.b : Rat) * p.x
def In (h : H3) (p : Pt) : Prop := val h p ≤ (h.c : Rat)
def On (h : H3) (p : Pt) : Prop := val h p = (h.c : Rat)
def Inside (l : List H3) (p : Pt) : Prop := ∀ g ∈ l, In g p
def dotH (g h : H3) : Int := g.a * h.a + g.b * h.b
def nrm (h : H3) : Int := h.a * h.a + h.b * h.b

theorem On.in {h : H3} {p : Pt} (o : On h p) : In h p := by unfold On at o; unfold In; rw [o]; exact Rat.le_refl

theorem nrm_pos {h : H3} (n : NZ h) : 0 < nrm h := by
  unfold nrm; unfold NZ at n
  have sq : ∀ x : Int, x ≠ 0 → 0 < x * x := fun x hx => by
    rcases Int.lt_or_gt_of_ne hx with k | k
    · exact Int.mul_pos_of_neg_of_neg k k
    · exact Int.mul_pos k k
  have sq0 : ∀ x : Int, 0 ≤ x * x := fun x => by
    by_cases hx : x = 0
    · rw [hx]; simp
    · have := sq x hx; omega
  have := sq0 h.a; have := sq0 h.b
  rcases n with n | n
  · have := sq _ n; omega
  · have := sq _ n; omega
theorem nrmQ_pos {h : H3} (n : NZ h) : (0 : Rat) < (nrm h : Rat) := by exact_mod_cast nrm_pos n
theorem nrmQ_ne {h : H3} (n : NZ h) : (nrm h : Rat) ≠ 0 := by have := nrmQ_pos n; grind
theorem nrmQ (h : H3) : (nrm h : Rat) = (h.a : Rat) * h.a + (h.b : Rat) * h.b := by unfold nrm; push_cast; rfl
theorem crossQ (g h : H3) : (cross g h : Rat) = (g.a : Rat) * h.b - (g.b : Rat) * h.a := by unfold cross; push_cast; rfl
theorem dotQ (g h : H3) : (dotH g h : Rat) = (g.a : Rat) * h.a + (g.b : Rat) * h.b := by unfold dotH; push_cast; rfl

/-- What a half plane says of a point, by its place along and across another one. -/
theorem val_split (h g : H3) (p : Pt) : (nrm h : Rat) * val g p = (dotH h g : Rat) * val h p + (cross h g : Rat) * prm h p := by
  rw [nrmQ, crossQ, dotQ]; unfold val prm; grind

theorem pt_eq {h : H3} (n : NZ h) {p q : Pt} (e1 : val h p = val h q) (e2 : prm h p = prm h q) : p = q := by
  have np := nrmQ_ne n
  rw [nrmQ] at np
  unfold val at e1; unfold prm at e2
  have m1 : ((h.a : Rat) * h.a + (h.b : Rat) * h.b) * (p.x - q.x) = 0 := by grind
  have m2 : ((h.a : Rat) * h.a + (h.b : Rat) * h.b) * (p.y - q.y) = 0 := by grind
  have ex : p.x = q.x := by rcases Rat.mul_eq_zero.1 m1 with k | k <;> grind
  have ey : p.y = q.y := by rcases Rat.mul_eq_zero.1 m2 with k | k <;> grind
  cases p; cases q; simp_all

/-- The point on h's border at place t. -/
def ptAt (h : H3) (t : Rat) : Pt := ⟨((h.a : Rat) * h.c - h.b * t) / nrm h, ((h.b : Rat) * h.c + h.a * t) / nrm h⟩
theorem ptAt_on {h : H3} (n : NZ h) (t : Rat) : On h (ptAt h t) := by
  have np := nrmQ_ne n
  unfold On val ptAt; rw [nrmQ] at *; grind
theorem ptAt_prm {h : H3} (n : NZ h) (t : Rat) : prm h (ptAt h t) = t := by
  have np := nrmQ_ne n
  unfold prm ptAt; rw [nrmQ] at *; grind

/-- The crossing of two borders, as a place on the first one's. -/
def crossT (h g : H3) : Rat := ((nrm h : Rat) * g.c - (dotH h g : Rat) * h.c) / (cross h g : Rat)

theorem in_iff_pos {h g : H3} (n : NZ h) (k : 0 < cross h g) {p : Pt} (o : On h p) : In g p ↔ prm h p ≤ crossT h g := by
  have np := nrmQ_pos n
  have kq : (0 : Rat) < (cross h g : Rat) := by exact_mod_cast k
  have e := val_split h g p
  unfold On at o; rw [o] at e
  have ct : (cross h g : Rat) * crossT h g = (nrm h : Rat) * g.c - (dotH h g : Rat) * h.c := by unfold crossT; grind
  unfold In
  constructor
  · intro hi
    apply Classical.byContradiction; intro hn
    have m1 : (nrm h : Rat) * val g p ≤ (nrm h : Rat) * g.c := Rat.mul_le_mul_of_nonneg_left hi (by grind)
    have m2 : (0 : Rat) < (cross h g : Rat) * (prm h p - crossT h g) := Rat.mul_pos kq (by grind)
    grind
  · intro hi
    apply Classical.byContradiction; intro hn
    have m1 : (0 : Rat) < (nrm h : Rat) * (val g p - g.c) := Rat.mul_pos np (by grind)
    have m2 : (cross h g : Rat) * prm h p ≤ (cross h g : Rat) * crossT h g := Rat.mul_le_mul_of_nonneg_left hi (by grind)
    grind
theorem in_iff_neg {h g : H3} (n : NZ h) (k : cross h g < 0) {p : Pt} (o : On h p) : In g p ↔ crossT h g ≤ prm h p := by
  have np := nrmQ_pos n
  have kq : (0 : Rat) < -(cross h g : Rat) := by
    have : (0 : Rat) < ((-cross h g : Int) : Rat) := by exact_mod_cast (by omega : 0 < -cross h g)
    push_cast at this; exact this
  have e := val_split h g p
  unfold On at o; rw [o] at e
  have ct : (cross h g : Rat) * crossT h g = (nrm h : Rat) * g.c - (dotH h g : Rat) * h.c := by unfold crossT; grind
  unfold In
  constructor
  · intro hi
    apply Classical.byContradiction; intro hn
    have m1 : (nrm h : Rat) * val g p ≤ (nrm h : Rat) * g.c := Rat.mul_le_mul_of_nonneg_left hi (by grind)
    have m2 : (0 : Rat) < -(cross h g : Rat) * (crossT h g - prm h p) := Rat.mul_pos kq (by grind)
    grind
  · intro hi
    apply Classical.byContradiction; intro hn
    have m1 : (0 : Rat) < (nrm h : Rat) * (val g p - g.c) := Rat.mul_pos np (by grind)
    have m2 : -(cross h g : Rat) * crossT h g ≤ -(cross h g : Rat) * prm h p := Rat.mul_le_mul_of_nonneg_left hi (by grind)
    grind
/-- Along a parallel border nothing changes. -/
theorem in_iff_par {h g : H3} (n : NZ h) (k : cross h g = 0) {p q : Pt} (o : On h p) (o' : On h q) : In g p ↔ In g q := by
  have np := nrmQ_pos n
  have e := val_split h g p
  have e' := val_split h g q
  unfold On at o o'; rw [o] at e; rw [o'] at e'
  have k0 : (cross h g : Rat) = 0 := by exact_mod_cast k
  rw [k0] at e e'
  have : val g p = val g q := by grind
  unfold In; rw [this]
theorem crossT_on {h g : H3} (n : NZ h) (k : cross h g ≠ 0) {p : Pt} (o : On h p) : On g p ↔ prm h p = crossT h g := by
  have np := nrmQ_pos n
  have kq : (cross h g : Rat) ≠ 0 := by exact_mod_cast k
  have e := val_split h g p
  unfold On at o; rw [o] at e
  have ct : (cross h g : Rat) * crossT h g = (nrm h : Rat) * g.c - (dotH h g : Rat) * h.c := by unfold crossT; grind
  unfold On
  constructor <;> intro hi <;> grind

/-- h's border bears more than one point of all half planes. -/
def Edge (l : List H3) (h : H3) : Prop := ∃ p q : Pt, On h p ∧ On h q ∧ prm h p < prm h q ∧ Inside l p ∧ Inside l q

end Go.Proofs.Ytnenlgaafiifpaa
