/- Several texts in one: Su, Ep, Mj. Each says its own conditions. -/
import Derived.Test.YtabmfaamadbefaaGreatRt
import Derived.Test.YtabmfaamadbefaaGreatSf
import Derived.Test.YtabmfaamadbefaaGreatFr
import Derived.OwnWalk
import Derived.Deep.Slices
import Derived.Deep.Fields
import Derived.ChangeSame
/- Plain: the farthest of some fractions, compared as such and in lowest terms; support and farthest corner of a region. No program. -/
set_option linter.unusedSimpArgs false
set_option linter.unusedVariables false
namespace Go.Proofs.YtabmfaamadbefaaGreat
/-- One fraction more: its number, if it is greater than all before. -/
def farStep (st : Nat × Option (Nat × Int × Int)) (x : Int × Int) : Nat × Option (Nat × Int × Int) :=
  (st.1 + 1, match st.2 with
    | none => some (st.1, x.1, x.2)
    | some (j, m, d) => if 0 < cmpF x.1 x.2 m d then some (st.1, x.1, x.2) else some (j, m, d))
def farV (l : List (Int × Int)) : Nat × Option (Nat × Int × Int) := l.foldl farStep (0, none)
theorem farV_snoc (l : List (Int × Int)) (x : Int × Int) : farV (l ++ [x]) = farStep (farV l) x := by unfold farV; rw [List.foldl_append]; rfl
theorem farV_nil : farV [] = (0, none) := rfl
theorem farV_count (l : List (Int × Int)) : (farV l).1 = l.length := by
  suffices h : ∀ (l : List (Int × Int)) st, (l.foldl farStep st).1 = st.1 + l.length by
    have := h l (0, none); unfold farV; rw [this]; simp
  intro l
  induction l with
  | nil => intro st; rfl
  | cons x r ih => intro st; rw [List.foldl_cons, ih]; simp [farStep]; omega
/-- The numbers that the program keeps. -/
def farN (l : List (Int × Int)) : Int × Int := match (farV l).2 with | none => (0, 0) | some (_, m, d) => (m, d)
def farB (l : List (Int × Int)) : Int := match (farV l).2 with | none => -1 | some (j, _, _) => (j : Int)
def FrOk (x : Int × Int) : Prop := (-500000000000000000 ≤ x.1 ∧ x.1 ≤ 500000000000000000) ∧ 1 ≤ x.2 ∧ x.2 ≤ 5000000000
theorem far_inv {l : List (Int × Int)} (h : ∀ x ∈ l, FrOk x) : (l = [] ∧ (farV l).2 = none) ∨ ∃ j m d, (farV l).2 = some (j, m, d) ∧ FrOk (m, d) ∧ j < l.length ∧ (m, d) ∈ l := by
  suffices key : ∀ k, k ≤ l.length → (k = 0 ∧ (farV (l.take k)).2 = none) ∨ ∃ j m d, (farV (l.take k)).2 = some (j, m, d) ∧ FrOk (m, d) ∧ j < k ∧ (m, d) ∈ l by
    rcases key l.length (Nat.le_refl _) with ⟨h0, h1⟩ | h1
    · rw [List.take_length] at h1; exact .inl ⟨List.length_eq_zero_iff.1 h0, h1⟩
    · rw [List.take_length] at h1; exact .inr h1
  intro k
  induction k with
  | zero => intro _; exact .inl ⟨rfl, by simp [farV]⟩
  | succ k ih =>
    intro hk
    right
    have hlt : k < l.length := by omega
    have hx := h _ (List.getElem_mem hlt)
    have hc : (farV (l.take k)).1 = k := by rw [farV_count]; simp; omega
    rw [List.take_succ_eq_append_getElem hlt, farV_snoc]
    unfold farStep
    rcases ih (by omega) with ⟨_, e⟩ | ⟨j, m, d, e, f, hj, hm⟩
    · rw [e, hc]; exact ⟨k, _, _, rfl, hx, by omega, List.getElem_mem hlt⟩
    · rw [e, hc]
      simp only
      split
      · exact ⟨k, _, _, rfl, hx, by omega, List.getElem_mem hlt⟩
      · exact ⟨j, m, d, rfl, f, by omega, hm⟩
theorem farN_ok {l : List (Int × Int)} (h : ∀ x ∈ l, FrOk x) : (l = [] ∧ farN l = (0, 0) ∧ farB l = -1) ∨ (FrOk (farN l) ∧ 0 ≤ farB l ∧ farB l < l.length ∧ farN l ∈ l) := by
  unfold farN farB
  rcases far_inv h with ⟨h0, e⟩ | ⟨j, m, d, e, f, hj, hm⟩
  · rw [e]; exact .inl ⟨h0, rfl, rfl⟩
  · rw [e]; exact .inr ⟨f, by simp, by simp; omega, hm⟩
/-- Is x the farthest so far? As the program asks. -/
def farGo (l : List (Int × Int)) (x : Int × Int) : Bool := decide ((farN l).2 = 0) || decide (0 < cmpF x.1 x.2 (farN l).1 (farN l).2)
theorem farN_snoc {l : List (Int × Int)} {x : Int × Int} (h : ∀ x ∈ l, FrOk x) : farN (l ++ [x]) = (if farGo l x = true then x else farN l) ∧ farB (l ++ [x]) = (if farGo l x = true then (l.length : Int) else farB l) := by
  unfold farGo farN farB
  rw [farV_snoc]
  have hc := farV_count l
  rcases far_inv h with ⟨h0, e⟩ | ⟨j, m, d, e, f, hj, _⟩
  · unfold farStep; rw [e, hc]; exact ⟨rfl, rfl⟩
  · have hd : decide (d = 0) = false := decide_eq_false (by have := f.2; simp only at this; omega)
    unfold farStep
    rw [e, hc]
    simp only [hd, Bool.false_or]
    by_cases p : 0 < cmpF x.1 x.2 m d
    · rw [if_pos p, decide_eq_true p, if_pos rfl, if_pos rfl]; exact ⟨rfl, rfl⟩
    · rw [if_neg p, decide_eq_false p, if_neg (by simp), if_neg (by simp)]; exact ⟨rfl, rfl⟩
theorem cmpF_scale {a b c d : Int} {g h : Nat} (hg : 0 < g) (hh : 0 < h) (hb : 0 < b) (hd : 0 < d) : cmpF (a * g) (b * g) (c * h) (d * h) = cmpF a b c d := by
  have gh : (0 : Int) < (g : Int) * h := Int.mul_pos (by omega) (by omega)
  have e1 : a * g * (d * h) = a * d * ((g : Int) * h) := by grind
  have e2 : c * h * (b * g) = c * b * ((g : Int) * h) := by grind
  unfold cmpF
  rw [e1, e2]
  have l1 : a * d * ((g : Int) * h) < c * b * ((g : Int) * h) ↔ a * d < c * b := Int.mul_lt_mul_right gh
  have l2 : c * b * ((g : Int) * h) < a * d * ((g : Int) * h) ↔ c * b < a * d := Int.mul_lt_mul_right gh
  simp only [l1, l2]
theorem ratOf_fr {x : Int × Int} (h : FrOk x) : ∃ (g : Nat), 0 < g ∧ x.1 = (ratOf x.1 x.2).1 * g ∧ x.2 = (ratOf x.1 x.2).2 * g ∧ 0 < (ratOf x.1 x.2).2 ∧ ratioOk (ratOf x.1 x.2).1 (ratOf x.1 x.2).2 = true := by
  obtain ⟨h1, h2, h3⟩ := h
  obtain ⟨g, a, b, eg, g0, ea, eb, qa, qb, b0, hg⟩ := gcd2_parts (n := x.1) (d := x.2) (by omega)
  have ba := mul_le_bd (a := a) (M := 500000000000000000) g0 (by omega) (by rw [← ea]; exact h1)
  have bb := mul_le_bd (a := b) (M := 5000000000) g0 (by omega) (by rw [← eb]; omega)
  have ok : ratioOk a b = true := (ratioOk_parts b0 hg (by omega)).2 ⟨by omega, by omega, by omega⟩
  rw [ratOf_red eg qa qb, if_pos ok]
  exact ⟨g, g0, ea, eb, b0, ok⟩
theorem ratCmp_fr {x y : Int × Int} (hx : FrOk x) (hy : FrOk y) : ratioCmp (ratOf x.1 x.2).1 (ratOf x.1 x.2).2 (ratOf y.1 y.2).1 (ratOf y.1 y.2).2 = cmpF x.1 x.2 y.1 y.2 := by
  obtain ⟨g, g0, a1, a2, a3, a4⟩ := ratOf_fr hx
  obtain ⟨h, h0, b1, b2, b3, b4⟩ := ratOf_fr hy
  unfold ratioCmp
  rw [if_pos ⟨a4, b4⟩]
  generalize ratOf x.1 x.2 = p at *
  generalize ratOf y.1 y.2 = q at *
  rw [a1, a2, b1, b2, cmpF_scale g0 h0 a3 b3]

/-- The values of a*x + b*y at the corners, as fractions. -/
def valS (a b : Int) (s : H3) : Int × Int := (a * s.a + b * s.b, s.c)
def valsL (a b : Int) (hs : List H3) : List (Int × Int) := (cornersL hs).map (valS a b)
theorem valsL_length (a b : Int) (hs : List H3) : (valsL a b hs).length = hs.length := by unfold valsL; rw [List.length_map, cornersL_length]
theorem valS_bd {a b : Int} {s : H3} (ha : -50000 ≤ a ∧ a ≤ 50000) (hb : -50000 ≤ b ∧ b ≤ 50000) (ks : okS s = true) : (-250000000000000000 ≤ a * s.a ∧ a * s.a ≤ 250000000000000000) ∧ (-250000000000000000 ≤ b * s.b ∧ b * s.b ≤ 250000000000000000) := by
  obtain ⟨b1, b2, b3⟩ := okS_bd ks
  have m1 := mul_bd (A := 50000) (B := 5000000000000) ha (y := s.a) (by omega)
  have m2 := mul_bd (A := 50000) (B := 5000000000000) hb (y := s.b) (by omega)
  omega
theorem valS_ok {a b : Int} {s : H3} (ha : -50000 ≤ a ∧ a ≤ 50000) (hb : -50000 ≤ b ∧ b ≤ 50000) (ks : okS s = true) : FrOk (valS a b s) := by
  obtain ⟨b1, _⟩ := okS_bd ks
  obtain ⟨m1, m2⟩ := valS_bd ha hb ks
  unfold FrOk valS
  simp only
  omega
theorem valsL_ok {a b : Int} {hs : List H3} (ha : -50000 ≤ a ∧ a ≤ 50000) (hb : -50000 ≤ b ∧ b ≤ 50000) (h : regionOk hs = true) : ∀ x ∈ valsL a b hs, FrOk x := by
  intro x hx
  obtain ⟨s, hs', rfl⟩ := List.mem_map.1 hx
  exact valS_ok ha hb (corners_spots h s hs')
/-- The support of a region: the greatest value, in lowest terms; and the farthest corner's number. -/
def supN (a b : Int) (hs : List H3) : Int × Int := ratOf (farN (valsL a b hs)).1 (farN (valsL a b hs)).2
def supOk (hs : List H3) (a b : Int) : Bool := decide (hs ≠ []) && inR a (-50000) 50000 && inR b (-50000) 50000 && regionOk hs
def supR (hs : List H3) (a b : Int) : (Int × Int) × Bool := if supOk hs a b = true then (supN a b hs, true) else ((0, 0), false)
def farR (hs : List H3) (a b : Int) : Int := if supOk hs a b = true then farB (valsL a b hs) else -1
theorem sup_parts {hs : List H3} {a b : Int} (ha : -50000 ≤ a ∧ a ≤ 50000) (hb : -50000 ≤ b ∧ b ≤ 50000) (h : regionOk hs = true) (hne : hs ≠ []) : FrOk (farN (valsL a b hs)) ∧ 0 ≤ farB (valsL a b hs) ∧ farB (valsL a b hs) < hs.length := by
  rcases farN_ok (valsL_ok ha hb h) with ⟨h0, _⟩ | ⟨f, h1, h2, _⟩
  · exfalso
    have := valsL_length a b hs
    rw [h0] at this
    exact hne (List.length_eq_zero_iff.1 this.symm)
  · rw [valsL_length] at h2
    exact ⟨f, h1, h2⟩
end Go.Proofs.YtabmfaamadbefaaGreat
/- Plain: the half plane of a direction with a fraction as its C; erosion, half plane by half plane. No program. -/
set_option linter.unusedSimpArgs false
set_option linter.unusedVariables false
set_option linter.unusedSectionVars false
namespace Go.Proofs.YtabmfaamadbefaaGreat
open Go.RowKit
def topF (a b n d : Int) : H3 × Bool := if ratioOk n d = true ∧ d ≤ 50000 then halfOf (a * d) (b * d) n else (⟨0, 0, 0⟩, false)
theorem ratioOk_cop {n d : Int} (h : ratioOk n d = true) : Nat.gcd n.natAbs d.natAbs = 1 := by
  obtain ⟨hd, hn⟩ := ratioOk_bd h
  simp only [ratioOk, Bool.and_eq_true, decide_eq_true_eq] at h
  have h2 := h.2
  rw [gcdS_eq _ _ (by omega) (by omega)] at h2
  omega
theorem ratOf_same {n d : Int} (h : ratioOk n d = true) : ratOf n d = (n, d) := by
  have e : gcdL [n, d] = 1 := by
    have := ratioOk_cop h
    simpa [gcdL] using this
  rw [ratOf_red (a := n) (b := d) (g := 1) e (by simp) (by simp), if_pos h]
theorem cop_dvd {g : Nat} {n d a x : Int} (hc : Nat.gcd n.natAbs d.natAbs = 1) (hn : ∃ z, n = z * (g : Int)) (hx : a * d = x * g) (hg : 0 < g) : ∃ a' : Int, a = a' * g ∧ x = a' * d := by
  obtain ⟨z, hz⟩ := hn
  have h1 : g ∣ n.natAbs := by rw [hz, Int.natAbs_mul, Int.natAbs_natCast]; exact Nat.dvd_mul_left _ _
  have h2 : Nat.gcd g d.natAbs = 1 := by
    have : Nat.gcd g d.natAbs ∣ Nat.gcd n.natAbs d.natAbs := Nat.dvd_gcd (Nat.dvd_trans (Nat.gcd_dvd_left _ _) h1) (Nat.gcd_dvd_right _ _)
    rw [hc] at this
    exact Nat.dvd_one.1 this
  have h3 : g ∣ a.natAbs * d.natAbs := by rw [← Int.natAbs_mul, hx, Int.natAbs_mul, Int.natAbs_natCast]; exact Nat.dvd_mul_left _ _
  have h4 : g ∣ a.natAbs := Nat.Coprime.dvd_of_dvd_mul_right h2 h3
  obtain ⟨a', ha⟩ := Int.ofNat_dvd_left.2 h4
  have ha' : a = a' * g := by rw [ha, Int.mul_comm]
  refine ⟨a', ha', ?_⟩
  have : x * (g : Int) = a' * d * g := by rw [← hx, ha']; grind
  exact (Int.mul_eq_mul_right_iff (show (g : Int) ≠ 0 by omega)).1 this
theorem far_mul {a' d : Int} (h0 : a' ≠ 0) (hd : 50000 < d) : ¬ (-50000 ≤ a' * d ∧ a' * d ≤ 50000) := by
  rintro ⟨h1, h2⟩
  rcases Int.lt_or_gt_of_ne h0 with h | h
  · have := Int.mul_le_mul_of_nonneg_right (show a' ≤ -1 by omega) (show (0 : Int) ≤ d by omega)
    omega
  · have := Int.mul_le_mul_of_nonneg_right (show 1 ≤ a' by omega) (show (0 : Int) ≤ d by omega)
    omega
theorem top_half {a b n d : Int} (ho : ratioOk n d = true) (hz : a ≠ 0 ∨ b ≠ 0) : topF a b n d = halfOf (a * d) (b * d) n := by
  unfold topF
  by_cases h5 : d ≤ 50000
  · rw [if_pos ⟨ho, h5⟩]
  · rw [if_neg (fun h => h5 h.2)]
    have hd := (ratioOk_bd ho).1
    by_cases hb : halfBad (a * d) (b * d) n
    · unfold halfOf; rw [if_pos hb]
    · have hnz : ¬ (a * d = 0 ∧ b * d = 0 ∧ n = 0) := fun h => by
        rcases hz with h0 | h0
        · exact h0 ((Int.mul_eq_zero.1 h.1).resolve_right (by omega))
        · exact h0 ((Int.mul_eq_zero.1 h.2.1).resolve_right (by omega))
      obtain ⟨g, x, y, z, e, g0, ea, eb, ec, qx, qy, qz⟩ := gcd3_parts hnz
      rw [halfOf_red hb e qx qy qz, if_neg]
      intro hk
      have K := (halfOk_iff _).1 hk
      have hc := ratioOk_cop ho
      obtain ⟨a', ha, hxa⟩ := cop_dvd hc ⟨z, ec⟩ ea g0
      obtain ⟨b', hb', hyb⟩ := cop_dvd hc ⟨z, ec⟩ eb g0
      have k1 := K.ba
      have k2 := K.bb
      simp only at k1 k2
      rcases hz with h0 | h0
      · refine far_mul (a' := a') (d := d) (fun e => h0 (by rw [ha, e, Int.zero_mul])) (by omega) ?_
        rw [← hxa]; exact k1
      · refine far_mul (a' := b') (d := d) (fun e => h0 (by rw [hb', e, Int.zero_mul])) (by omega) ?_
        rw [← hyb]; exact k2
theorem sup_fr {ws : List H3} {a b p q : Int} (kw : regionOk ws = true) (hw : ws ≠ []) (ha : -50000 ≤ a ∧ a ≤ 50000) (hb : -50000 ≤ b ∧ b ≤ 50000) (h : supN a b ws = (p, q)) : ratioOk p q = true ∧ (1 ≤ q ∧ q ≤ 5000000000) ∧ (-500000000000000000 ≤ p ∧ p ≤ 500000000000000000) := by
  obtain ⟨f, _, _⟩ := sup_parts ha hb kw hw
  obtain ⟨g, g0, e1, e2, h0, hok⟩ := ratOf_fr f
  unfold supN at h
  rw [h] at e1 e2 h0 hok
  obtain ⟨f1, f2, f3⟩ := f
  have m1 := mul_le_bd (a := p) (M := 500000000000000000) g0 (by omega) (by simp only at e1; rw [← e1]; exact f1)
  have m2 := mul_le_bd (a := q) (M := 5000000000) g0 (by omega) (by simp only at e2; rw [← e2]; omega)
  simp only at h0
  exact ⟨hok, by omega, m1⟩
def erF (ws : List H3) (g : H3) : H3 × Bool := halfOf (g.a * (supN g.a g.b ws).2) (g.b * (supN g.a g.b ws).2) (g.c * (supN g.a g.b ws).2 - (supN g.a g.b ws).1)
theorem ok_shift {p q c : Int} (h : ratioOk p q = true) (hc : -100000000 ≤ c ∧ c ≤ 100000000) (hq : q ≤ 5000000000) (hp : -500000000000000000 ≤ p ∧ p ≤ 500000000000000000) : ratioOk (c * q - p) q = true ∧ -500000000000000000 ≤ c * q ∧ c * q ≤ 500000000000000000 := by
  have hd := (ratioOk_bd h).1
  have m := mul_bd (x := c) (y := q) (A := 100000000) (B := 5000000000) hc (by omega)
  refine ⟨(ratioOk_parts (by omega) ?_ (by omega)).2 ⟨by omega, by omega, by omega⟩, by omega, by omega⟩
  have hc := ratioOk_cop h
  have : Nat.gcd (c * q - p).natAbs q.natAbs ∣ Nat.gcd p.natAbs q.natAbs := by
    refine Nat.dvd_gcd ?_ (Nat.gcd_dvd_right _ _)
    generalize hG : Nat.gcd (c * q - p).natAbs q.natAbs = G
    have d1 : (G : Int) ∣ c * q - p := Int.ofNat_dvd_left.2 (hG ▸ Nat.gcd_dvd_left _ _)
    have d2 : (G : Int) ∣ q := Int.ofNat_dvd_left.2 (hG ▸ Nat.gcd_dvd_right _ _)
    have d3 : (G : Int) ∣ c * q := Int.dvd_trans d2 (Int.dvd_mul_left _ _)
    have d4 : (G : Int) ∣ c * q - (c * q - p) := Int.dvd_sub d3 d1
    rw [show c * q - (c * q - p) = p by omega] at d4
    exact Int.ofNat_dvd_left.1 d4
  rw [hc] at this
  exact Nat.dvd_one.1 this
theorem erF_top {ws : List H3} {g : H3} {p q : Int} (kw : regionOk ws = true) (hw : ws ≠ []) (k : HOk g) (h : supN g.a g.b ws = (p, q)) : erF ws g = topF g.a g.b (g.c * q - p) q := by
  obtain ⟨ho, hq, hp⟩ := sup_fr kw hw k.ba k.bb h
  obtain ⟨h1, _⟩ := ok_shift ho k.bc (by omega) hp
  unfold erF
  rw [h, top_half h1 k.nz]

theorem mem_makeR {hs : List H3} (ok : ∀ g ∈ hs, HOk g) {g : H3} (h : g ∈ makeR hs) : HOk g := by
  have G := good_sorted ok
  have hne : makeR hs ≠ [] := fun e => by rw [e] at h; cases h
  have e : makeR hs = pickE (sorted4 hs) (sorted4 hs).length := makeE_some (L := sorted4 hs) hne
  rw [e] at h
  exact G.ok g ((pick_mem G g).1 h).1
theorem meetR_ok {hs out : List H3} (ok : ∀ g ∈ hs, HOk g) (h : meetR hs = (out, true)) : regionOk out = true := by
  rw [meetR_makeR ok] at h
  by_cases h4 : 40 < (makeR hs).length
  · rw [if_pos h4] at h; simp at h
  · rw [if_neg h4] at h
    injection h with h _
    by_cases h0 : out = []
    · unfold regionOk; simp [h0]
    · have ok2 : ∀ g ∈ out, HOk g := fun g hg => mem_makeR ok (by rw [h]; exact hg)
      have e : makeR out = out := by rw [← h]; exact makeR_idem ok (by rw [h]; exact h0)
      have hl : out.length ≤ 40 := by rw [← h]; omega
      have ha : out.all halfOk = true := List.all_eq_true.2 fun g hg => (halfOk_iff g).2 (ok2 g hg)
      unfold regionOk fromR
      rw [if_pos ⟨hl, ha⟩, meetR_makeR ok2, e, if_neg (by omega)]
      simp
theorem movedF_ok {F : H3 → H3 × Bool} {hs out : List H3} (hF : ∀ g ∈ hs, (F g).2 = true → HOk (F g).1) (h : movedF F hs = (out, true)) : regionOk out = true := by
  unfold movedF at h
  split at h
  · injection h with h _; subst h; rfl
  · split at h
    · rename_i hall
      refine meetR_ok (fun g hg => ?_) h
      obtain ⟨x, hx, rfl⟩ := List.mem_map.1 hg
      exact hF x hx (List.all_eq_true.1 hall x hx)
    · simp at h
theorem erF_ok {ws : List H3} {g : H3} (h : (erF ws g).2 = true) : HOk (erF ws g).1 := halfOf_ok (v := (erF ws g).2) rfl h
end Go.Proofs.YtabmfaamadbefaaGreat
/- Rows of ints in the laws: the argument opened, the copy, the comparison. Condition: at most 2^20 ints where said. -/
set_option linter.unusedSimpArgs false
set_option linter.unusedVariables false
set_option linter.unusedSectionVars false
namespace Go.Proofs.YtabmfaamadbefaaGreat
open Go.ChangeShapes Go.WideShapes Go.ChangeAt Go.RowKit Go.Joins Go.Deep
/-- A row of ints: any address. -/
def RI (w : World) (A : Option Addr) (xs : List Int) : Prop := ∀ k (hk : k < xs.length), ∃ g o, A = some ⟨g, o, none⟩ ∧ g < w.heap.size ∧ w.cell? ⟨g, o + k, none⟩ = some (.int .i64 xs[k])
theorem RI.below {w w' : World} {A : Option Addr} {xs : List Int} (h : RI w A xs) (hb : Below w.heap.size w w') : RI w' A xs := fun k hk => by
  obtain ⟨g, o, h1, h2, h3⟩ := h k hk
  have := hb.size
  exact ⟨g, o, h1, by omega, (hb.cell (p := ⟨g, o + k, none⟩) h2).trans h3⟩
section
variable {H : Type} {enc : TypeId × Value → H} {w : World} {base : Nat} {spare : Nat → Bool} {held : Bool} {n : Nat}
theorem ints_of_trod {cs : List Value} {y : DataW H × List MemPlace} (h : DataW.trod enc Tryz.prog w base spare held n 23 cs = some y) : ∃ (A : Option Addr) (c : Nat) (xs : List Int), cs = [.slice A xs.length c] ∧ RI w A xs ∧ xs.length ≤ c ∧ c ≤ maxLen ∧ ∀ x ∈ xs, -9223372036854775808 ≤ x ∧ x ≤ 9223372036854775807 := by
  rcases open_slice Tryz.underlying23 h with ⟨rfl, _⟩ | ⟨a, len, cap, m, n', D, Pl, rfl, hb, hl, hm, hmm, _, hi⟩
  · exact ⟨none, 0, [], rfl, fun k hk => by simp at hk, Nat.le_refl _, by unfold maxLen; omega, fun x hx => by cases hx⟩
  · have hlm : len ≤ m := by rw [hmm]; split <;> omega
    have cell0 : ∀ i, i < len → ∃ x : Int, w.cell? (a.add i) = some (.int .i64 x) ∧ -9223372036854775808 ≤ x ∧ x ≤ 9223372036854775807 := by
      intro i hi'
      obtain ⟨cs', hc, ht⟩ := hi i (by omega)
      rw [cells_int] at hc
      obtain ⟨_, hcl, hat⟩ := World.cells?_some hc
      match cs', hcl with
      | [c0], _ =>
        obtain ⟨x, rfl, hx⟩ := int_of_trod ht
        have c0 := hat 0 (by omega)
        rw [Go.Deep.add_add, Nat.mul_one, Nat.add_zero] at c0
        exact ⟨x, c0, hx⟩
    have hall : ∀ i, i < len → ∃ x : Int, (∃ g o, (some a : Option Addr) = some ⟨g, o, none⟩ ∧ g < w.heap.size ∧ w.cell? ⟨g, o + i, none⟩ = some (.int .i64 x)) ∧ -9223372036854775808 ≤ x ∧ x ≤ 9223372036854775807 := by
      intro i hi'
      obtain ⟨x0, h0, _⟩ := cell0 0 (by omega)
      obtain ⟨x, c0, hx⟩ := cell0 i hi'
      rw [show a.add 0 = a by simp [Addr.add]] at h0
      obtain ⟨sp, hbk⟩ := cell?_addr h0
      obtain ⟨g, o, sp'⟩ := a
      simp only at sp hbk
      subst sp
      rw [Addr.add_lit] at c0
      exact ⟨x, ⟨g, o, rfl, hbk, c0⟩, hx⟩
    obtain ⟨xs, hxl, hx⟩ := list_of len hall
    subst hxl
    refine ⟨some a, cap, xs, rfl, fun k hk => (hx k hk).1, hl, hm, fun x hxm => ?_⟩
    obtain ⟨i, hi', rfl⟩ := List.mem_iff_getElem.1 hxm
    exact (hx i hi').2
set_option maxRecDepth 100000 in
theorem open_ints {v : Value} {d : DataW H} {p : List MemPlace} {r : Reach} {b0 : Nat} (hv : Value.okWide Tryz.prog w r b0 23 v) (h : DataW.Trod enc Tryz.prog w base spare held 23 v d p) :
    ∃ (A : Option Addr) (c : Nat) (xs : List Int), v = .slice A xs.length c ∧ RI w A xs ∧ xs.length ≤ 9223372036854775807 ∧ ∀ x ∈ xs, -9223372036854775808 ≤ x ∧ x ≤ 9223372036854775807 := by
  obtain ⟨fuel, hf⟩ := h
  obtain ⟨A, c, xs, e, h1, h2, h3, h4⟩ := ints_of_trod hf
  obtain ⟨a, l, k, rfl⟩ := okWide_slice Tryz.underlying23 hv
  simp [Value.cells] at e
  exact ⟨A, c, xs, by rw [e.1, e.2.1, e.2.2], h1, by unfold maxLen at h3; omega, h4⟩
end
/-- A block of ints. -/
def IB (g : Nat) (w : World) (xs : List Int) : Prop := ∃ cur : Array Value, w.heap[g]? = some (.cells cur 3 (0, 0)) ∧ cur.size = xs.length ∧ ∀ j (hj : j < xs.length), cur[j]? = some (.int .i64 xs[j])
theorem IB.lt {g : Nat} {w : World} {xs : List Int} (h : IB g w xs) : g < w.heap.size := by
  obtain ⟨cur, h1, _⟩ := h
  exact (Array.getElem?_eq_some_iff.1 h1).1
theorem IB.below {g : Nat} {w w' : World} {xs : List Int} (h : IB g w xs) (hb : Below w.heap.size w w') : IB g w' xs := by
  have hl := h.lt
  obtain ⟨cur, h1, h2⟩ := h
  exact ⟨cur, (hb.block g hl).trans h1, h2⟩
theorem IB.ri {g : Nat} {w : World} {xs : List Int} (h : IB g w xs) : RI w (some ⟨g, 0, none⟩) xs := fun k hk => by
  have hl := h.lt
  obtain ⟨cur, h1, _, h3⟩ := h
  exact ⟨g, 0, rfl, hl, by rw [Nat.zero_add]; exact cell_blk h1 (h3 k hk)⟩
theorem IB.ne {g b : Nat} {w : World} {xs : List Int} {arr : Array Value} {T : TypeId} {fr : Nat × Nat} (h : IB g w xs) (hb : w.heap[b]? = some (.cells arr T fr)) (hT : T ≠ 3) : some b ≠ some g := by
  obtain ⟨cur, h1, _⟩ := h
  intro e
  injection e with e
  subst e
  rw [h1] at hb
  injection hb with hb; injection hb with _ hb; exact hT hb.symm
theorem IB.apart {g : Nat} {w : World} {xs : List Int} {B : Nat} {E : TypeId} {A : Option Addr} {c : Nat} {ys : List H3} (h : IB g w xs) (R : RB B E w A c ys) (hT : E ≠ 3) : A ≠ some ⟨g, 0, none⟩ := by
  rintro rfl
  rcases R.2 with ⟨e, _⟩ | ⟨g', cap, cu, e1, _, hh, _⟩
  · cases e
  · injection e1 with e1; injection e1 with e1; injection e1 with e1
    subst e1
    exact h.ne hh hT rfl
theorem RB.grown_i {B g : Nat} {E : TypeId} {w w' : World} {A : Option Addr} {c : Nat} {xs : List H3} (h : RB B E w A c xs) (hg : w.grownBy w' (some g)) (hne : A ≠ some ⟨g, 0, none⟩) : RB B E w' A c xs := by
  refine ⟨h.1, ?_⟩
  rcases h.2 with e | ⟨g', cap, cu, e1, hgB, hh, hr⟩
  · exact .inl e
  · refine .inr ⟨g', cap, cu, e1, hgB, ?_, hr⟩
    refine (hg.block g' (Array.getElem?_eq_some_iff.1 hh).1 fun e => ?_).trans hh
    injection e with e
    subst e
    injection e1 with e1
    exact hne e1
theorem box_grown_i {W W' : World} {b g : Nat} {o : Obj} (h : Hid (W.heap[b]? = some o)) (K : W.grownBy W' (some g)) (hne : some b ≠ some g) : Hid (W'.heap[b]? = some o) := Lib.hid ((K.block b (Array.getElem?_eq_some_iff.1 h.out).1 hne).trans h.out)
theorem IB.grown {g : Nat} {w w' : World} {xs : List Int} {o : Option Nat} (h : IB g w xs) (hg : w.grownBy w' o) (hne : some g ≠ o) : IB g w' xs := by
  have hl := h.lt
  obtain ⟨cur, h1, h2⟩ := h
  exact ⟨cur, (hg.block g hl hne).trans h1, h2⟩
theorem RB.ne_i {B g n : Nat} {E : TypeId} {w : World} {A : Option Addr} {c : Nat} {ys : List H3} {xs : List Int} (R : RB B E w A c ys) (h : IB g w xs) (hT : E ≠ 3) : some g ≠ (Value.slice A n c).ownBlock := by
  obtain ⟨cur, h1, _⟩ := h
  exact R.ne_box h1 (fun e => hT e.symm)
/-- What a call that copies a row of ints leaves: a new block. -/
def IntsOut (w : World) (xs : List Int) (e : Ending) (w' : World) : Prop := ∃ g c, e = .returned (.slice (some ⟨g, 0, none⟩) xs.length c) ∧ w.heap.size ≤ g ∧ IB g w' xs ∧ Below w.heap.size w w'

theorem info_int : (Tryz.prog.info? 3).map (fun i => (i.zero, i.size, i.bytes)) = some (some (.int .i64 0), 1, 8) := by kernel_rfl
theorem info_int_parts : ∃ i, Tryz.prog.info? 3 = some i ∧ i.zero = some (.int .i64 0) ∧ i.size = 1 ∧ i.bytes = 8 := by
  have h := info_int
  cases hq : Tryz.prog.info? 3 with
  | none => rw [hq] at h; cases h
  | some i => rw [hq] at h; simp at h; exact ⟨i, rfl, h.1, h.2.1, h.2.2⟩

def smallI (n : Int) : Bool := inR n (-20) 20
def mapOk (m : List Int) (q : Int) : Bool := decide (m.length = 4) && inR q 1 20 && m.all smallI
theorem isMap_eq {m : List Int} {q : Int} {A : Option Addr} {c : Nat} {w : World} {v : Bool} (R : RI w A m) (hl : m.length ≤ 1000000000) (h : Hid (mapOk m q = v)) :
    Calls Tryz.prog 87 #[.slice A m.length c, .int .i64 q] w fun e w' => e = .returned (.bool v) ∧ Below w.heap.size w w' := by
  have h' := h.out
  clear h
  unfold mapOk at h'
  by_cases h4 : m.length = 4
  · have hz : ((m.length : Int) != 4) = false := by simp; omega
    rw [decide_eq_true h4, Bool.true_and] at h'
    cases hq : inR q 1 20 with
    | false =>
      rw [hq, Bool.false_and] at h'
      subst h'
      clear h4
      go_enter Tryz.func87, Tryz.ntmps87
      go_wp2_with ((go_at_call 60; refine (inRange_eq hq).mono ?_; rintro e w' ⟨rfl, rfl⟩))
      go_ret
      exact ⟨rfl, (by repeat (first | exact bR | refine bO ?_ | refine bA ?_ | refine bS ?_ | refine bD ?_ | refine bN ?_))⟩
    | true =>
      rw [hq, Bool.true_and] at h'
      have HV := Lib.hid h'
      clear h' h4
      go_enter Tryz.func87, Tryz.ntmps87
      go_wp2_with ((go_at_call 60; refine (inRange_eq hq).mono ?_; rintro e w' ⟨rfl, rfl⟩))
      go_loopw [17] (fun i wr => ∃ k : Nat, k ≤ m.length ∧ i = .int .i64 k ∧ Hid ((m.take k).all smallI = true) ∧ Below w.heap.size w wr) (fun i _ => m.length - (intOf i).toNat)
      case atStart => exact ⟨0, Nat.zero_le _, rfl, Lib.hid rfl, Below.refl _ _⟩
      case round =>
        obtain ⟨k, hk, rfl, HA, hb⟩ := hrel
        have hbs := hb.size
        by_cases hlt : k < m.length
        · obtain ⟨g, o, rfl, hg, z0⟩ := (R.below hb) k hlt
          have HT := Lib.hid (all_take_succ smallI m k hlt)
          clear R
          cases hs : inR m[k] (-20) 20 with
          | true =>
            have HB := Lib.hid (show smallI m[k] = true from hs)
            go_wp2_with ((go_at_call 60; refine (inRange_eq hs).mono ?_; rintro e w' ⟨rfl, rfl⟩))
            go_roundw
            case rel => exact ⟨k + 1, by omega, by go_num, Lib.hid (by rw [HT.out, HA.out, HB.out]; rfl), (by repeat (first | exact hb | refine bO ?_ | refine bA ?_ | refine bS ?_ | refine bD ?_ | refine bN ?_))⟩
            case measure => simp [intOf] <;> omega
          | false =>
            obtain rfl : v = false := by
              rw [← HV.out, List.all_eq_false]
              exact ⟨m[k], List.getElem_mem hlt, by show ¬ smallI m[k] = true; unfold smallI; rw [hs]; simp⟩
            go_wp2_with ((go_at_call 60; refine (inRange_eq hs).mono ?_; rintro e w' ⟨rfl, rfl⟩))
            go_ret
            exact ⟨rfl, (by repeat (first | exact hb | refine bO ?_ | refine bA ?_ | refine bS ?_ | refine bD ?_ | refine bN ?_))⟩
        · obtain rfl : k = m.length := by omega
          obtain rfl : v = true := by rw [← HV.out, ← HA.out, List.take_length]
          go_wp2
          go_ret
          exact ⟨rfl, hb⟩
  · have hz : ((m.length : Int) != 4) = true := by simp; omega
    have hz' : ¬ ((m.length : Int) = 4) := by omega
    rw [decide_eq_false h4, Bool.false_and, Bool.false_and] at h'
    subst h'
    clear h4
    go_enter Tryz.func87, Tryz.ntmps87
    go_wp2
    go_ret
    exact ⟨rfl, (by repeat (first | exact bR | refine bO ?_ | refine bA ?_ | refine bS ?_ | refine bD ?_ | refine bN ?_))⟩
theorem RI.four {w : World} {A : Option Addr} {a b e f : Int} (R : RI w A [a, b, e, f]) : ∃ g o, A = some ⟨g, o, none⟩ ∧ g < w.heap.size ∧ w.cell? ⟨g, o, none⟩ = some (.int .i64 a) ∧ w.cell? ⟨g, o + 1, none⟩ = some (.int .i64 b) ∧ w.cell? ⟨g, o + 2, none⟩ = some (.int .i64 e) ∧ w.cell? ⟨g, o + 3, none⟩ = some (.int .i64 f) := by
  obtain ⟨g, o, rfl, h1, c0⟩ := R 0 (by simp)
  obtain ⟨g1, o1, e1, _, c1⟩ := R 1 (by simp)
  obtain ⟨g2, o2, e2, _, c2⟩ := R 2 (by simp)
  obtain ⟨g3, o3, e3, _, c3⟩ := R 3 (by simp)
  injection e1 with e1; injection e1 with e1 f1; subst e1 f1
  injection e2 with e2; injection e2 with e2 f2; subst e2 f2
  injection e3 with e3; injection e3 with e3 f3; subst e3 f3
  exact ⟨g, o, rfl, h1, c0, c1, c2, c3⟩
theorem isStB_pur {w0 w : World} {Rs : List RD} {vs : Nat → Value} {T : TypeId} {m j b : Nat} {nj nm : List Nat} {wm : Bool} {u : Value} (h : holds w0 Rs vs m w) (hr : Rs[m]? = some (.rel nm [j] wm (IsStB b T))) (hj : Rs[j]? = some (.pur nj u)) :
    w.heap[b]? = some (.cells u.cells T (0, 0)) := by
  unfold holds at h
  rw [hr] at h
  obtain ⟨u', e, h1⟩ := h
  simp only [List.map_cons, List.map_nil, vv_pur hj, List.cons.injEq, and_true] at e
  subst e
  exact h1

end Go.Proofs.YtabmfaamadbefaaGreat