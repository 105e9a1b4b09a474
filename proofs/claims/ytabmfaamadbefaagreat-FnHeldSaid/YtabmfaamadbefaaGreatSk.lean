/- Plain: a picked input lies in its span (cut from Sq). No program. -/
import Derived.Test.YtabmfaamadbefaaGreatPk
import Derived.Test.YtabmfaamadbefaaGreatWi
set_option linter.unusedSimpArgs false
set_option linter.unusedVariables false
set_option linter.unusedSectionVars false
namespace Go.Proofs.YtabmfaamadbefaaGreat
open Go.RowKit Go.Lib
theorem spanOk_both {n d m e : Int} (h : spanOk n d m e = true) : ratioOk n d = true ∧ ratioOk m e = true := by
  simp only [spanOk, Bool.and_eq_true] at h; exact h.1
theorem fr_trans {n d u v m e : Int} (hd : 0 < d) (hv : 0 < v) (he : 0 < e) (h1 : n * v ≤ u * d) (h2 : u * e ≤ m * v) : n * e ≤ m * d := by
  have a1 : n * v * e ≤ u * d * e := Int.mul_le_mul_of_nonneg_right h1 (by omega)
  have a2 : u * e * d ≤ m * v * d := Int.mul_le_mul_of_nonneg_right h2 (by omega)
  have a3 : (n * e) * v ≤ (m * d) * v := by
    have e1 : n * v * e = (n * e) * v := by grind
    have e2 : u * d * e = u * e * d := by grind
    have e3 : m * v * d = (m * d) * v := by grind
    omega
  exact Int.le_of_mul_le_mul_right a3 hv
theorem cmp_le' {n d m e : Int} (h1 : ratioOk n d = true) (h2 : ratioOk m e = true) : ratioCmp n d m e ≤ 0 ↔ n * e ≤ m * d := by
  have := cmp_gt h1 h2
  constructor
  · intro h
    rcases Int.lt_or_le (m * d) (n * e) with q | q
    · have := this.2 q; omega
    · exact q
  · intro h
    rcases Int.lt_or_le 0 (ratioCmp n d m e) with q | q
    · have := this.1 q; omega
    · exact q
theorem cmp_ge {n d m e : Int} (h1 : ratioOk n d = true) (h2 : ratioOk m e = true) : 0 ≤ ratioCmp n d m e ↔ m * d ≤ n * e := by
  have := cmp_lt h1 h2
  constructor
  · intro h
    rcases Int.lt_or_le (n * e) (m * d) with q | q
    · have := this.2 q; omega
    · exact q
  · intro h
    rcases Int.lt_or_le (ratioCmp n d m e) 0 with q | q
    · have := this.1 q; omega
    · exact q
theorem one_ok {z : Int} (h : -1000000000000000000 ≤ z ∧ z ≤ 1000000000000000000) : ratioOk z 1 = true := by
  have hz : gcdS z 1 = 1 := by rw [gcdS_eq z 1 (by omega) (by omega)]; simp
  simp only [ratioOk, hz, Bool.and_eq_true, inR_iff]
  exact ⟨⟨by decide, h⟩, by decide⟩
theorem spanOk_le {n d m e : Int} (h : spanOk n d m e = true) : n * e ≤ m * d := by
  have hb := spanOk_both h
  simp only [spanOk, Bool.and_eq_true, decide_eq_true_eq] at h
  exact (cmp_le' hb.1 hb.2).1 h.2
theorem spanOk_iff {n d m e : Int} (h1 : ratioOk n d = true) (h2 : ratioOk m e = true) : spanOk n d m e = true ↔ n * e ≤ m * d := by
  simp only [spanOk, h1, h2, Bool.and_self, Bool.true_and, decide_eq_true_eq]
  exact cmp_le' h1 h2
theorem inSpan_iff {n d m e u v : Int} (h : spanOk n d m e = true) (hu : ratioOk u v = true) : inSpan n d m e u v = true ↔ n * v ≤ u * d ∧ u * e ≤ m * v := by
  have hb := spanOk_both h
  simp only [inSpan, h, hu, Bool.and_self, Bool.true_and, Bool.and_eq_true, decide_eq_true_eq]
  rw [cmp_le' hb.1 hu, cmp_le' hu hb.2]
theorem ceilF_le {n d z : Int} (hd : 0 < d) : ceilF n d ≤ z ↔ n ≤ z * d := by
  unfold ceilF
  have := Int.le_ediv_iff_mul_le (a := -z) (b := -n) hd
  have e : -z * d = -(z * d) := by rw [Int.neg_mul]
  rw [e] at this
  omega
theorem floor_ge {m e z : Int} (he : 0 < e) : z ≤ m / e ↔ z * e ≤ m := Int.le_ediv_iff_mul_le he
theorem ceilF_small {n d : Int} (h : ratioOk n d = true) : -1000000000000000000 ≤ ceilF n d ∧ ceilF n d ≤ 1000000000000000000 := by
  have := ratioOk_bd h
  exact ceilF_bd (a := n) (b := d) (by omega) this.2 (by omega)
theorem floor_small {n d : Int} (h : ratioOk n d = true) : -1000000000000000000 ≤ n / d ∧ n / d ≤ 1000000000000000000 := by
  have := ratioOk_bd h
  have h := cf_bd (a := n) (b := d) (by omega) this.2 (by omega)
  exact ⟨h.2.2.1, h.2.2.2.1⟩

/-- The picked input: its case, said by products. -/
theorem pick_cases {n d m e k : Int} (h : spanOk n d m e = true) (hk : -1000 ≤ k ∧ k ≤ 1000) :
    (k * d < n ∧ ceilF n d * e ≤ m ∧ pickS n d m e k = (ceilF n d, 1)) ∨ (k * d < n ∧ m < ceilF n d * e ∧ pickS n d m e k = (n, d)) ∨
    (m < k * e ∧ n ≤ (m / e) * d ∧ pickS n d m e k = (m / e, 1)) ∨ (m < k * e ∧ (m / e) * d < n ∧ pickS n d m e k = (m, e)) ∨
    (n ≤ k * d ∧ k * e ≤ m ∧ pickS n d m e k = (k, 1)) := by
  have hb := spanOk_both h
  have hc : clampS k (-1000) 1000 = k := by unfold clampS; omega
  have k1 := one_ok (z := k) (by omega)
  have c1 := one_ok (ceilF_small hb.1)
  have f1 := one_ok (floor_small hb.2)
  unfold pickS
  rw [if_pos h, hc]
  by_cases q1 : ratioCmp k 1 n d < 0
  · rw [if_pos q1]
    have p1 := (cmp_lt k1 hb.1).1 q1
    by_cases q2 : ratioCmp (ceilF n d) 1 m e ≤ 0
    · rw [if_pos q2]
      have p2 := (cmp_le' c1 hb.2).1 q2
      exact .inl ⟨by omega, by omega, rfl⟩
    · rw [if_neg q2]
      have p2 := (cmp_gt c1 hb.2).1 (by omega)
      exact .inr (.inl ⟨by omega, by omega, rfl⟩)
  · rw [if_neg q1]
    have p1 := (cmp_ge k1 hb.1).1 (by omega)
    by_cases q2 : 0 < ratioCmp k 1 m e
    · rw [if_pos q2]
      have p2 := (cmp_gt k1 hb.2).1 q2
      by_cases q3 : 0 ≤ ratioCmp (m / e) 1 n d
      · rw [if_pos q3]
        have p3 := (cmp_ge f1 hb.1).1 q3
        exact .inr (.inr (.inl ⟨by omega, by omega, rfl⟩))
      · rw [if_neg q3]
        have p3 := (cmp_lt f1 hb.1).1 (by omega)
        exact .inr (.inr (.inr (.inl ⟨by omega, by omega, rfl⟩)))
    · rw [if_neg q2]
      have p2 := (cmp_le' k1 hb.2).1 (by omega)
      exact .inr (.inr (.inr (.inr ⟨by omega, by omega, rfl⟩)))
theorem pick_ok {n d m e k : Int} (h : spanOk n d m e = true) (hk : -1000 ≤ k ∧ k ≤ 1000) : ratioOk (pickS n d m e k).1 (pickS n d m e k).2 = true := by
  have hb := spanOk_both h
  rcases pick_cases h hk with ⟨_, _, e⟩ | ⟨_, _, e⟩ | ⟨_, _, e⟩ | ⟨_, _, e⟩ | ⟨_, _, e⟩ <;> rw [e]
  · exact one_ok (ceilF_small hb.1)
  · exact hb.1
  · exact one_ok (floor_small hb.2)
  · exact hb.2
  · exact one_ok (by omega)
theorem pick_in {n d m e k : Int} (h : spanOk n d m e = true) (hk : -1000 ≤ k ∧ k ≤ 1000) : inSpan n d m e (pickS n d m e k).1 (pickS n d m e k).2 = true := by
  have hb := spanOk_both h
  have hd := ratio_pos hb.1
  have he := ratio_pos hb.2
  have hl := spanOk_le h
  rw [inSpan_iff h (pick_ok h hk)]
  have ce := (ceilF_le (n := n) (z := ceilF n d) hd).1 (Int.le_refl _)
  have fl := (floor_ge (m := m) (z := m / e) he).1 (Int.le_refl _)
  rcases pick_cases h hk with ⟨a, b, e'⟩ | ⟨a, b, e'⟩ | ⟨a, b, e'⟩ | ⟨a, b, e'⟩ | ⟨a, b, e'⟩ <;> rw [e'] <;> simp only <;> constructor <;> omega
end Go.Proofs.YtabmfaamadbefaaGreat