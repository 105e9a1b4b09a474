/- Plain: the farthest of some fractions, compared as such and in lowest terms; support and farthest corner of a region. No program. -/
import Derived.Test.YtbgdfdibpmfafaaHs
import Derived.Test.YtbgdfdibpmfafaaRt
set_option linter.unusedSimpArgs false
set_option linter.unusedVariables false
namespace Go.Proofs.Ytbgdfdibpmfafaa

/-- One fraction more: its number, if it is greater than all before. -/
def farStep (st : Nat × Option (Nat × Int × Int)) (x : Int × Int) : Nat × Option (Nat × Int × Int) :=
  (st.1 + 1, match st.2 with
    | none => some (st.1, x.1, x.2)
    | some (j, m, d) => if 0 < cmpF x.1 x.2 m d then some (st.1, x.1, x.2) else some (j, m, d))
def farV (l : List (Int × Int)) : Nat × Option (Nat × Int × Int) := l.foldl farStep (0, none)
theorem farV_snoc (l : List (Int × Int)) (x : Int × Int) : farV (l ++ [x]) = farStep (farV l) x := by unfold farV; rw [List.foldl_append]; rfl
theorem farV_nil : farV [] = (0, none) := rfl
theorem farV_count (l : List (Int × Int)) : (farV l).1 = l.length := by
  suffices h : ∀ (l : List (Int × Int)) st, (l.foldl farStep st).1 = st.1 + l.length by
    have := h l (0, none); unfold farV; rw [this]; simp
  intro l
  induction l with
  | nil => intro st; rfl
  | cons x r ih => intro st; rw [List.foldl_cons, ih]; simp [farStep]; omega
/-- The numbers that the program keeps. -/
def farN (l : List (Int × Int)) : Int × Int := match (farV l).2 with | none => (0, 0) | some (_, m, d) => (m, d)
def farB (l : List (Int × Int)) : Int := match (farV l).2 with | none => -1 | some (j, _, _) => (j : Int)
def FrOk (x : Int × Int) : Prop := (-500000000000000000 ≤ x.1 ∧ x.1 ≤ 500000000000000000) ∧ 1 ≤ x.2 ∧ x.2 ≤ 5000000000
theorem far_inv {l : List (Int × Int)} (h : ∀ x ∈ l, FrOk x) : (l = [] ∧ (farV l).2 = none) ∨ ∃ j m d, (farV l).2 = some (j, m, d) ∧ FrOk (m, d) ∧ j < l.length ∧ (m, d) ∈ l := by
  suffices key : ∀ k, k ≤ l.length → (k = 0 ∧ (farV (l.take k)).2 = none) ∨ ∃ j m d, (farV (l.take k)).2 = some (j, m, d) ∧ FrOk (m, d) ∧ j < k ∧ (m, d) ∈ l by
    rcases key l.length (Nat.le_refl _) with ⟨h0, h1⟩ | h1
    · rw [List.take_length] at h1; exact .inl ⟨List.length_eq_zero_iff.1 h0, h1⟩
    · rw [List.take_length] at h1; exact .inr h1
  intro k
  induction k with
  | zero => intro _; exact .inl ⟨rfl, by simp [farV]⟩
  | succ k ih =>
    intro hk
    right
    have hlt : k < l.length := by omega
    have hx := h _ (List.getElem_mem hlt)
    have hc : (farV (l.take k)).1 = k := by rw [farV_count]; simp; omega
    rw [List.take_succ_eq_append_getElem hlt, farV_snoc]
    unfold farStep
    rcases ih (by omega) with ⟨_, e⟩ | ⟨j, m, d, e, f, hj, hm⟩
    · rw [e, hc]; exact ⟨k, _, _, rfl, hx, by omega, List.getElem_mem hlt⟩
    · rw [e, hc]
      simp only
      split
      · exact ⟨k, _, _, rfl, hx, by omega, List.getElem_mem hlt⟩
      · exact ⟨j, m, d, rfl, f, by omega, hm⟩
theorem farN_ok {l : List (Int × Int)} (h : ∀ x ∈ l, FrOk x) : (l = [] ∧ farN l = (0, 0) ∧ farB l = -1) ∨ (FrOk (farN l) ∧ 0 ≤ farB l ∧ farB l < l.length ∧ farN l ∈ l) := by
  unfold farN farB
  rcases far_inv h with ⟨h0, e⟩ | ⟨j, m, d, e, f, hj, hm⟩
  · rw [e]; exact .inl ⟨h0, rfl, rfl⟩
  · rw [e]; exact .inr ⟨f, by simp, by simp; omega, hm⟩
/-- Is x the farthest so far? As the program asks. -/
def farGo (l : List (Int × Int)) (x : Int × Int) : Bool := decide ((farN l).2 = 0) || decide (0 < cmpF x.1 x.2 (farN l).1 (farN l).2)
theorem farN_snoc {l : List (Int × Int)} {x : Int × Int} (h : ∀ x ∈ l, FrOk x) : farN (l ++ [x]) = (if farGo l x = true then x else farN l) ∧ farB (l ++ [x]) = (if farGo l x = true then (l.length : Int) else farB l) := by
  unfold farGo farN farB
  rw [farV_snoc]
  have hc := farV_count l
  rcases far_inv h with ⟨h0, e⟩ | ⟨j, m, d, e, f, hj, _⟩
  · unfold farStep; rw [e, hc]; exact ⟨rfl, rfl⟩
  · have hd : decide (d = 0) = false := decide_eq_false (by have := f.2; simp only at this; omega)
    unfold farStep
    rw [e, hc]
    simp only [hd, Bool.false_or]
    by_cases p : 0 < cmpF x.1 x.2 m d
    · rw [if_pos p, decide_eq_true p, if_pos rfl, if_pos rfl]; exact ⟨rfl, rfl⟩
    · rw [if_neg p, decide_eq_false p, if_neg (by simp), if_neg (by simp)]; exact ⟨rfl, rfl⟩
theorem cmpF_scale {a b c d : Int} {g h : Nat} (hg : 0 < g) (hh : 0 < h) (hb : 0 < b) (hd : 0 < d) : cmpF (a * g) (b * g) (c * h) (d * h) = cmpF a b c d := by
  have gh : (0 : Int) < (g : Int) * h := Int.mul_pos (by omega) (by omega)
  have e1 : a * g * (d * h) = a * d * ((g : Int) * h) := by grind
  have e2 : c * h * (b * g) = c * b * ((g : Int) * h) := by grind
  unfold cmpF
  rw [e1, e2]
  have l1 : a * d * ((g : Int) * h) < c * b * ((g : Int) * h) ↔ a * d < c * b := Int.mul_lt_mul_right gh
  have l2 : c * b * ((g : Int) * h) < a * d * ((g : Int) * h) ↔ c * b < a * d := Int.mul_lt_mul_right gh
  simp only [l1, l2]
theorem ratOf_fr {x : Int × Int} (h : FrOk x) : ∃ (g : Nat), 0 < g ∧ x.1 = (ratOf x.1 x.2).1 * g ∧ x.2 = (ratOf x.1 x.2).2 * g ∧ 0 < (ratOf x.1 x.2).2 ∧ ratioOk (ratOf x.1 x.2).1 (ratOf x.1 x.2).2 = true := by
  obtain ⟨h1, h2, h3⟩ := h
  obtain ⟨g, a, b, eg, g0, ea, eb, qa, qb, b0, hg⟩ := gcd2_parts (n := x.1) (d := x.2) (by omega)
  have ba := mul_le_bd (a := a) (M := 500000000000000000) g0 (by omega) (by rw [← ea]; exact h1)
  have bb := mul_le_bd (a := b) (M := 5000000000) g0 (by omega) (by rw [← eb]; omega)
  have ok : ratioOk a b = true := (ratioOk_parts b0 hg (by omega)).2 ⟨by omega, by omega, by omega⟩
  rw [ratOf_red eg qa qb, if_pos ok]
  exact ⟨g, g0, ea, eb, b0, ok⟩
theorem ratCmp_fr {x y : Int × Int} (hx : FrOk x) (hy : FrOk y) : ratioCmp (ratOf x.1 x.2).1 (ratOf x.1 x.2).2 (ratOf y.1 y.2).1 (ratOf y.1 y.2).2 = cmpF x.1 x.2 y.1 y.2 := by
  obtain ⟨g, g0, a1, a2, a3, a4⟩ := ratOf_fr hx
  obtain ⟨h, h0, b1, b2, b3, b4⟩ := ratOf_fr hy
  unfold ratioCmp
  rw [if_pos ⟨a4, b4⟩]
  generalize ratOf x.1 x.2 = p at *
  generalize ratOf y.1 y.2 = q at *
  rw [a1, a2, b1, b2, cmpF_scale g0 h0 a3 b3]

/-- The values of a*x + b*y at the corners, as fractions. -/
def valS (a b : Int) (s : H3) : Int × Int := (a * s.a + b * s.b, s.c)
def valsL (a b : Int) (hs : List H3) : List (Int × Int) := (cornersL hs).map (valS a b)
theorem valsL_length (a b : Int) (hs : List H3) : (valsL a b hs).length = hs.length := by unfold valsL; rw [List.length_map, cornersL_length]
theorem valS_bd {a b : Int} {s : H3} (ha : -50000 ≤ a ∧ a ≤ 50000) (hb : -50000 ≤ b ∧ b ≤ 50000) (ks : okS s = true) : (-250000000000000000 ≤ a * s.a ∧ a * s.a ≤ 250000000000000000) ∧ (-250000000000000000 ≤ b * s.b ∧ b * s.b ≤ 250000000000000000) := by
  obtain ⟨b1, b2, b3⟩ := okS_bd ks
  have m1 := mul_bd (A := 50000) (B := 5000000000000) ha (y := s.a) (by omega)
  have m2 := mul_bd (A := 50000) (B := 5000000000000) hb (y := s.b) (by omega)
  omega
theorem valS_ok {a b : Int} {s : H3} (ha : -50000 ≤ a ∧ a ≤ 50000) (hb : -50000 ≤ b ∧ b ≤ 50000) (ks : okS s = true) : FrOk (valS a b s) := by
  obtain ⟨b1, _⟩ := okS_bd ks
  obtain ⟨m1, m2⟩ := valS_bd ha hb ks
  unfold FrOk valS
  simp only
  omega
theorem valsL_ok {a b : Int} {hs : List H3} (ha : -50000 ≤ a ∧ a ≤ 50000) (hb : -50000 ≤ b ∧ b ≤ 50000) (h : regionOk hs = true) : ∀ x ∈ valsL a b hs, FrOk x := by
  intro x hx
  obtain ⟨s, hs', rfl⟩ := List.mem_map.1 hx
  exact valS_ok ha hb (corners_spots h s hs')
/-- The support of a region: the greatest value, in lowest terms; and the farthest corner's number. -/
def supN (a b : Int) (hs : List H3) : Int × Int := ratOf (farN (valsL a b hs)).1 (farN (valsL a b hs)).2
def supOk (hs : List H3) (a b : Int) : Bool := decide (hs ≠ []) && inR a (-50000) 50000 && inR b (-50000) 50000 && regionOk hs
def supR (hs : List H3) (a b : Int) : (Int × Int) × Bool := if supOk hs a b = true then (supN a b hs, true) else ((0, 0), false)
def farR (hs : List H3) (a b : Int) : Int := if supOk hs a b = true then farB (valsL a b hs) else -1
theorem sup_parts {hs : List H3} {a b : Int} (ha : -50000 ≤ a ∧ a ≤ 50000) (hb : -50000 ≤ b ∧ b ≤ 50000) (h : regionOk hs = true) (hne : hs ≠ []) : FrOk (farN (valsL a b hs)) ∧ 0 ≤ farB (valsL a b hs) ∧ farB (valsL a b hs) < hs.length := by
  rcases farN_ok (valsL_ok ha hb h) with ⟨h0, _⟩ | ⟨f, h1, h2, _⟩
  · exfalso
    have := valsL_length a b hs
    rw [h0] at this
    exact hne (List.length_eq_zero_iff.1 this.symm)
  · rw [valsL_length] at h2
    exact ⟨f, h1, h2⟩
end Go.Proofs.Ytbgdfdibpmfafaa
