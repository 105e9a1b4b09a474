/- Plain: the admitted inputs. No program. -/
import Derived.Test.YtabmfaamadbefaaGreatRmo
import Derived.Test.YtabmfaamadbefaaGreatQz
set_option linter.unusedVariables false
set_option linter.unusedSimpArgs false
set_option linter.unusedSectionVars false
namespace Go.Proofs.YtabmfaamadbefaaGreat
open Go.RowKit
abbrev Q4 := (Int × Int) × (Int × Int)
def admTop (X Y D : Int) (h : H3) : Int := h.c * D - h.a * X - h.b * Y
def admStep (r : RoomV) (X Y D : Int) (w : Q4) (h : H3) : Option Q4 :=
  if 0 < slopeI r h then some (w.1, ratMin w.2.1 w.2.2 (ratOf (admTop X Y D h) (D * slopeI r h)).1 (ratOf (admTop X Y D h) (D * slopeI r h)).2)
  else if slopeI r h < 0 then some (ratMax w.1.1 w.1.2 (ratOf (-admTop X Y D h) (-D * slopeI r h)).1 (ratOf (-admTop X Y D h) (-D * slopeI r h)).2, w.2)
  else if admTop X Y D h < 0 then none else some w
def admL (r : RoomV) (X Y D : Int) : List H3 → Q4 → Option Q4
  | [], w => some w
  | h :: t, w => match admStep r X Y D w h with
    | some w' => admL r X Y D t w'
    | none => none
def spanV : Option Q4 → Q4 × Bool
  | some w => if spanOk w.1.1 w.1.2 w.2.1 w.2.2 = true then (w, true) else (((0, 0), (0, 0)), false)
  | none => (((0, 0), (0, 0)), false)
def admV (r : RoomV) (e : List H3) (x y d : Int) : Q4 × Bool := spanV (admL r (r.m.getD 0 0 * x + r.m.getD 1 0 * y) (r.m.getD 2 0 * x + r.m.getD 3 0 * y) (r.q * d) e ((r.lo, 1), (r.hi, 1)))
def admOf (r : RoomV) (v : List H3 × Bool) (x y d : Int) : Q4 × Bool := if v.2 = true ∧ v.1 ≠ [] then admV r v.1 x y d else (((0, 0), (0, 0)), false)
def admitR (r : RoomV) (p : List H3) (x y d : Int) : Q4 × Bool := if regionOk p = true ∧ spotOk x y d = true ∧ d ≤ 100000 then admOf r (robustR r p) x y d else (((0, 0), (0, 0)), false)
theorem ratOf_valid {n d : Int} (hn : -1000000000000000000 ≤ n ∧ n ≤ 1000000000000000000) (hd : 0 < d ∧ d ≤ 1000000000000000) : ratioOk (ratOf n d).1 (ratOf n d).2 = true := by
  obtain ⟨g, a, b, e, g0, ea, eb, qa, qb, b0, hc⟩ := gcd2_parts (n := n) hd.1
  have ha := mul_le_bd (a := a) (M := 1000000000000000000) g0 (by omega) (by rw [← ea]; exact hn)
  have hb := mul_le_bd (a := b) (M := 1000000000000000) g0 (by omega) (by rw [← eb]; omega)
  have ok : ratioOk a b = true := (ratioOk_parts b0 hc (by omega)).2 ⟨by omega, ha⟩
  rw [ratOf_red e qa qb, if_pos ok]
  exact ok
theorem admL_cons {r : RoomV} {X Y D : Int} {e : List H3} {k : Nat} (hk : k < e.length) (w : Q4) : admL r X Y D (e.drop k) w = match admStep r X Y D w e[k] with
    | some w' => admL r X Y D (e.drop (k + 1)) w'
    | none => none := by rw [List.drop_eq_getElem_cons hk]; rfl
structure AdmBd (X Y D : Int) : Prop where
  X : -4000000000 ≤ X ∧ X ≤ 4000000000
  Y : -4000000000 ≤ Y ∧ Y ≤ 4000000000
  D : 1 ≤ D ∧ D ≤ 2000000
theorem adm_bd {r : RoomV} {x y d : Int} (P : RoomP r) (h : spotOk x y d = true) (hd : d ≤ 100000) : ∃ a b e f, r.m = [a, b, e, f] ∧ MapBd2 a b e f r.q x y d ∧ AdmBd (a * x + b * y) (e * x + f * y) (r.q * d) := by
  have hk : nextOk x y d 0 1 0 0 1 = true := by
    unfold nextOk
    rw [h, show spotOk 0 0 1 = true by decide, show ratioOk 0 1 = true from whole_rat (by omega)]
    simp [hd, inR]
  obtain ⟨a, b, e, f, hm, B⟩ := next_bd P hk
  exact ⟨a, b, e, f, hm, B.M, ⟨B.X, B.Y, B.D⟩⟩
structure TopBd (X Y D : Int) (h : H3) : Prop where
  p1 : -200000000000000 ≤ h.c * D ∧ h.c * D ≤ 200000000000000
  p2 : -200000000000000 ≤ h.a * X ∧ h.a * X ≤ 200000000000000
  p3 : -200000000000000 ≤ h.b * Y ∧ h.b * Y ≤ 200000000000000
theorem top_bd {X Y D : Int} {h : H3} (B : AdmBd X Y D) (k : HOk h) : TopBd X Y D h :=
  ⟨mul_bd (A := 100000000) (B := 2000000) k.bc (by have := B.D; omega), mul_bd (A := 50000) (B := 4000000000) k.ba B.X, mul_bd (A := 50000) (B := 4000000000) k.bb B.Y⟩
theorem slope_le {r : RoomV} {h : H3} (P : RoomP r) (k : HOk h) : -10000000 ≤ slopeI r h ∧ slopeI r h ≤ 10000000 := by
  have B := slope_bd P k
  obtain ⟨b1, b2⟩ := B
  unfold slopeI
  omega

end Go.Proofs.YtabmfaamadbefaaGreat