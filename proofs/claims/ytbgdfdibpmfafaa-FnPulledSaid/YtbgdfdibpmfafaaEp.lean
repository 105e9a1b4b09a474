/- Plain: the half plane of a direction with a fraction as its C; erosion, half plane by half plane. No program. -/
import Derived.Test.YtbgdfdibpmfafaaSu
import Derived.Test.YtbgdfdibpmfafaaSf
import Derived.Test.YtbgdfdibpmfafaaGk
set_option linter.unusedSimpArgs false
set_option linter.unusedVariables false
set_option linter.unusedSectionVars false
namespace Go.Proofs.Ytbgdfdibpmfafaa
open Go.RowKit

def topF (a b n d : Int) : H3 × Bool := if ratioOk n d = true ∧ d ≤ 50000 then halfOf (a * d) (b * d) n else (⟨0, 0, 0⟩, false)
theorem ratioOk_cop {n d : Int} (h : ratioOk n d = true) : Nat.gcd n.natAbs d.natAbs = 1 := by
  obtain ⟨hd, hn⟩ := ratioOk_bd h
  simp only [ratioOk, Bool.and_eq_true, decide_eq_true_eq] at h
  have h2 := h.2
  rw [gcdS_eq _ _ (by omega) (by omega)] at h2
  omega
theorem ratOf_same {n d : Int} (h : ratioOk n d = true) : ratOf n d = (n, d) := by
  have e : gcdL [n, d] = 1 := by
    have := ratioOk_cop h
    simpa [gcdL] using this
  rw [ratOf_red (a := n) (b := d) (g := 1) e (by simp) (by simp), if_pos h]
theorem cop_dvd {g : Nat} {n d a x : Int} (hc : Nat.gcd n.natAbs d.natAbs = 1) (hn : ∃ z, n = z * (g : Int)) (hx : a * d = x * g) (hg : 0 < g) : ∃ a' : Int, a = a' * g ∧ x = a' * d := by
  obtain ⟨z, hz⟩ := hn
  have h1 : g ∣ n.natAbs := by rw [hz, Int.natAbs_mul, Int.natAbs_natCast]; exact Nat.dvd_mul_left _ _
  have h2 : Nat.gcd g d.natAbs = 1 := by
    have : Nat.gcd g d.natAbs ∣ Nat.gcd n.natAbs d.natAbs := Nat.dvd_gcd (Nat.dvd_trans (Nat.gcd_dvd_left _ _) h1) (Nat.gcd_dvd_right _ _)
    rw [hc] at this
    exact Nat.dvd_one.1 this
  have h3 : g ∣ a.natAbs * d.natAbs := by rw [← Int.natAbs_mul, hx, Int.natAbs_mul, Int.natAbs_natCast]; exact Nat.dvd_mul_left _ _
  have h4 : g ∣ a.natAbs := Nat.Coprime.dvd_of_dvd_mul_right h2 h3
  obtain ⟨a', ha⟩ := Int.ofNat_dvd_left.2 h4
  have ha' : a = a' * g := by rw [ha, Int.mul_comm]
  refine ⟨a', ha', ?_⟩
  have : x * (g : Int) = a' * d * g := by rw [← hx, ha']; grind
  exact (Int.mul_eq_mul_right_iff (show (g : Int) ≠ 0 by omega)).1 this
theorem far_mul {a' d : Int} (h0 : a' ≠ 0) (hd : 50000 < d) : ¬ (-50000 ≤ a' * d ∧ a' * d ≤ 50000) := by
  rintro ⟨h1, h2⟩
  rcases Int.lt_or_gt_of_ne h0 with h | h
  · have := Int.mul_le_mul_of_nonneg_right (show a' ≤ -1 by omega) (show (0 : Int) ≤ d by omega)
    omega
  · have := Int.mul_le_mul_of_nonneg_right (show 1 ≤ a' by omega) (show (0 : Int) ≤ d by omega)
    omega
theorem top_half {a b n d : Int} (ho : ratioOk n d = true) (hz : a ≠ 0 ∨ b ≠ 0) : topF a b n d = halfOf (a * d) (b * d) n := by
  unfold topF
  by_cases h5 : d ≤ 50000
  · rw [if_pos ⟨ho, h5⟩]
  · rw [if_neg (fun h => h5 h.2)]
    have hd := (ratioOk_bd ho).1
    by_cases hb : halfBad (a * d) (b * d) n
    · unfold halfOf; rw [if_pos hb]
    · have hnz : ¬ (a * d = 0 ∧ b * d = 0 ∧ n = 0) := fun h => by
        rcases hz with h0 | h0
        · exact h0 ((Int.mul_eq_zero.1 h.1).resolve_right (by omega))
        · exact h0 ((Int.mul_eq_zero.1 h.2.1).resolve_right (by omega))
      obtain ⟨g, x, y, z, e, g0, ea, eb, ec, qx, qy, qz⟩ := gcd3_parts hnz
      rw [halfOf_red hb e qx qy qz, if_neg]
      intro hk
      have K := (halfOk_iff _).1 hk
      have hc := ratioOk_cop ho
      obtain ⟨a', ha, hxa⟩ := cop_dvd hc ⟨z, ec⟩ ea g0
      obtain ⟨b', hb', hyb⟩ := cop_dvd hc ⟨z, ec⟩ eb g0
      have k1 := K.ba
      have k2 := K.bb
      simp only at k1 k2
      rcases hz with h0 | h0
      · refine far_mul (a' := a') (d := d) (fun e => h0 (by rw [ha, e, Int.zero_mul])) (by omega) ?_
        rw [← hxa]; exact k1
      · refine far_mul (a' := b') (d := d) (fun e => h0 (by rw [hb', e, Int.zero_mul])) (by omega) ?_
        rw [← hyb]; exact k2
theorem sup_fr {ws : List H3} {a b p q : Int} (kw : regionOk ws = true) (hw : ws ≠ []) (ha : -50000 ≤ a ∧ a ≤ 50000) (hb : -50000 ≤ b ∧ b ≤ 50000) (h : supN a b ws = (p, q)) : ratioOk p q = true ∧ (1 ≤ q ∧ q ≤ 5000000000) ∧ (-500000000000000000 ≤ p ∧ p ≤ 500000000000000000) := by
  obtain ⟨f, _, _⟩ := sup_parts ha hb kw hw
  obtain ⟨g, g0, e1, e2, h0, hok⟩ := ratOf_fr f
  unfold supN at h
  rw [h] at e1 e2 h0 hok
  obtain ⟨f1, f2, f3⟩ := f
  have m1 := mul_le_bd (a := p) (M := 500000000000000000) g0 (by omega) (by simp only at e1; rw [← e1]; exact f1)
  have m2 := mul_le_bd (a := q) (M := 5000000000) g0 (by omega) (by simp only at e2; rw [← e2]; omega)
  simp only at h0
  exact ⟨hok, by omega, m1⟩
def erF (ws : List H3) (g : H3) : H3 × Bool := halfOf (g.a * (supN g.a g.b ws).2) (g.b * (supN g.a g.b ws).2) (g.c * (supN g.a g.b ws).2 - (supN g.a g.b ws).1)
theorem ok_shift {p q c : Int} (h : ratioOk p q = true) (hc : -100000000 ≤ c ∧ c ≤ 100000000) (hq : q ≤ 5000000000) (hp : -500000000000000000 ≤ p ∧ p ≤ 500000000000000000) : ratioOk (c * q - p) q = true ∧ -500000000000000000 ≤ c * q ∧ c * q ≤ 500000000000000000 := by
  have hd := (ratioOk_bd h).1
  have m := mul_bd (x := c) (y := q) (A := 100000000) (B := 5000000000) hc (by omega)
  refine ⟨(ratioOk_parts (by omega) ?_ (by omega)).2 ⟨by omega, by omega, by omega⟩, by omega, by omega⟩
  have hc := ratioOk_cop h
  have : Nat.gcd (c * q - p).natAbs q.natAbs ∣ Nat.gcd p.natAbs q.natAbs := by
    refine Nat.dvd_gcd ?_ (Nat.gcd_dvd_right _ _)
    generalize hG : Nat.gcd (c * q - p).natAbs q.natAbs = G
    have d1 : (G : Int) ∣ c * q - p := Int.ofNat_dvd_left.2 (hG ▸ Nat.gcd_dvd_left _ _)
    have d2 : (G : Int) ∣ q := Int.ofNat_dvd_left.2 (hG ▸ Nat.gcd_dvd_right _ _)
    have d3 : (G : Int) ∣ c * q := Int.dvd_trans d2 (Int.dvd_mul_left _ _)
    have d4 : (G : Int) ∣ c * q - (c * q - p) := Int.dvd_sub d3 d1
    rw [show c * q - (c * q - p) = p by omega] at d4
    exact Int.ofNat_dvd_left.1 d4
  rw [hc] at this
  exact Nat.dvd_one.1 this
theorem erF_top {ws : List H3} {g : H3} {p q : Int} (kw : regionOk ws = true) (hw : ws ≠ []) (k : HOk g) (h : supN g.a g.b ws = (p, q)) : erF ws g = topF g.a g.b (g.c * q - p) q := by
  obtain ⟨ho, hq, hp⟩ := sup_fr kw hw k.ba k.bb h
  obtain ⟨h1, _⟩ := ok_shift ho k.bc (by omega) hp
  unfold erF
  rw [h, top_half h1 k.nz]

theorem mem_makeR {hs : List H3} (ok : ∀ g ∈ hs, HOk g) {g : H3} (h : g ∈ makeR hs) : HOk g := by
  have G := good_sorted ok
  have hne : makeR hs ≠ [] := fun e => by rw [e] at h; cases h
  have e : makeR hs = pickE (sorted4 hs) (sorted4 hs).length := makeE_some (L := sorted4 hs) hne
  rw [e] at h
  exact G.ok g ((pick_mem G g).1 h).1
theorem meetR_ok {hs out : List H3} (ok : ∀ g ∈ hs, HOk g) (h : meetR hs = (out, true)) : regionOk out = true := by
  rw [meetR_makeR ok] at h
  by_cases h4 : 40 < (makeR hs).length
  · rw [if_pos h4] at h; simp at h
  · rw [if_neg h4] at h
    injection h with h _
    by_cases h0 : out = []
    · unfold regionOk; simp [h0]
    · have ok2 : ∀ g ∈ out, HOk g := fun g hg => mem_makeR ok (by rw [h]; exact hg)
      have e : makeR out = out := by rw [← h]; exact makeR_idem ok (by rw [h]; exact h0)
      have hl : out.length ≤ 40 := by rw [← h]; omega
      have ha : out.all halfOk = true := List.all_eq_true.2 fun g hg => (halfOk_iff g).2 (ok2 g hg)
      unfold regionOk fromR
      rw [if_pos ⟨hl, ha⟩, meetR_makeR ok2, e, if_neg (by omega)]
      simp
theorem movedF_ok {F : H3 → H3 × Bool} {hs out : List H3} (hF : ∀ g ∈ hs, (F g).2 = true → HOk (F g).1) (h : movedF F hs = (out, true)) : regionOk out = true := by
  unfold movedF at h
  split at h
  · injection h with h _; subst h; rfl
  · split at h
    · rename_i hall
      refine meetR_ok (fun g hg => ?_) h
      obtain ⟨x, hx, rfl⟩ := List.mem_map.1 hg
      exact hF x hx (List.all_eq_true.1 hall x hx)
    · simp at h
theorem erF_ok {ws : List H3} {g : H3} (h : (erF ws g).2 = true) : HOk (erF ws g).1 := halfOf_ok (v := (erF ws g).2) rfl h
end Go.Proofs.Ytbgdfdibpmfafaa
