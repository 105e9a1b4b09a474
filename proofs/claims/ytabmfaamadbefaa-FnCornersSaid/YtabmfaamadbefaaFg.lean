/- Plain: what FnGrown says of a grown region. No program. -/
import Derived.Test.YtabmfaamadbefaaGl
import Derived.Test.YtabmfaamadbefaaGp
set_option linter.unusedSimpArgs false
set_option linter.unusedVariables false
set_option linter.unusedSectionVars false
namespace Go.Proofs.Ytabmfaamadbefaa
open Go.RowKit

theorem between {t u lo hi : Int} (h1 : lo ≤ u) (h2 : u ≤ hi) : -(u * t) ≤ max (-lo * t) (-hi * t) := by
  rcases Int.lt_or_le t 0 with q | q
  · have := Int.mul_le_mul_of_nonpos_right (a := u) (b := hi) (c := t)
    have e : hi * t ≤ u * t := Int.mul_le_mul_of_nonpos_right h2 (by omega)
    have e2 : -hi * t = -(hi * t) := by rw [Int.neg_mul]
    omega
  · have e : lo * t ≤ u * t := Int.mul_le_mul_of_nonneg_right h1 q
    have e2 : -lo * t = -(lo * t) := by rw [Int.neg_mul]
    omega
/-- A half plane grown along a direction holds at a spot that a step of the range takes into the half plane. -/
theorem grow_side {bx bY lo hi x y u : Int} {g g' : H3} (hg : growF bx bY lo hi g = (g', true)) (h1 : lo ≤ u) (h2 : u ≤ hi) (hs : sideI g ⟨x + u * bx, y + u * bY, 1⟩ ≤ 0) : sideI g' ⟨x, y, 1⟩ ≤ 0 := by
  unfold growF at hg
  obtain ⟨k, k0, ea, eb, ec⟩ := half_scale hg
  have hb := between (t := g.a * bx + g.b * bY) h1 h2
  rw [← scale_le (n := sideI g' ⟨x, y, 1⟩) k0]
  unfold sideI at hs ⊢
  simp only at hs ⊢
  have l : (g'.a * x + g'.b * y - g'.c * 1) * (k : Int) = (g'.a * k) * x + (g'.b * k) * y - g'.c * k := by grind
  rw [l, ← ea, ← eb, ← ec]
  have r : g.a * (x + u * bx) + g.b * (y + u * bY) = g.a * x + g.b * y + u * (g.a * bx + g.b * bY) := by grind
  rw [r] at hs
  omega
/-- A side of the strip along the direction holds at every spot from which a step leads into the region. -/
theorem strip_side {ps : List H3} {a b bx bY x y u : Int} {g' : H3} (kp : regionOk ps = true) (hne : ps ≠ []) (ha : -50000 ≤ a ∧ a ≤ 50000) (hb : -50000 ≤ b ∧ b ≤ 50000) (hz : a ≠ 0 ∨ b ≠ 0) (ho : a * bx + b * bY = 0) (hg : sideF ps a b = (g', true)) (hin : ∀ h ∈ ps ++ frameH, sideI h ⟨x + u * bx, y + u * bY, 1⟩ ≤ 0) : sideI g' ⟨x, y, 1⟩ ≤ 0 := by
  obtain ⟨G, hm, _⟩ := regionOk_parts kp hne
  obtain ⟨⟨p, q⟩, hs⟩ : ∃ v, supN a b ps = v := ⟨_, rfl⟩
  have hx : Inside (sorted4 ps) (ptOf (x + u * bx, y + u * bY, 1)) := by
    rw [inside_sorted G]
    exact fun h hh => (in_side (s := ⟨x + u * bx, y + u * bY, 1⟩) (by simp)).2 (hin h hh)
  have hv : val ⟨a, b, a * x + b * y⟩ (ptOf (x + u * bx, y + u * bY, 1)) = ((a * x + b * y : Int) : Rat) := by
    have e : a * (x + u * bx) + b * (y + u * bY) = a * x + b * y := by
      have : a * (x + u * bx) + b * (y + u * bY) = a * x + b * y + u * (a * bx + b * bY) := by grind
      rw [this, ho]; omega
    unfold val ptOf
    simp only
    rw [← e]
    push_cast
    grind
  have hge := sup_ge kp hne ha hb hz hs hx (a * x + b * y) hv
  unfold sideF at hg
  rw [hs] at hg
  simp only at hg
  obtain ⟨k, k0, ea, eb, ec⟩ := half_scale hg
  rw [← scale_le (n := sideI g' ⟨x, y, 1⟩) k0]
  unfold sideI
  simp only
  have l : (g'.a * x + g'.b * y - g'.c * 1) * (k : Int) = (g'.a * k) * x + (g'.b * k) * y - g'.c * k := by grind
  rw [l, ← ea, ← eb, ← ec]
  have r : a * q * x + b * q * y = (a * x + b * y) * q := by grind
  rw [r]
  omega
theorem dir_ortho {bx bY : Int} (h0 : ¬ (bx = 0 ∧ bY = 0)) : dirA bx bY * bx + dirB bx bY * bY = 0 ∧ (dirA bx bY ≠ 0 ∨ dirB bx bY ≠ 0) := by
  have e : gcdL [bx, bY] = Nat.gcd bx.natAbs bY.natAbs := by simp [gcdL]
  have g0 : 0 < gcdL [bx, bY] := by
    rw [e]
    rcases Nat.eq_zero_or_pos (Nat.gcd bx.natAbs bY.natAbs) with q | q
    · have := Nat.gcd_eq_zero_iff.1 q
      omega
    · exact q
  obtain ⟨m, hm⟩ : ((gcdL [bx, bY] : Nat) : Int) ∣ bx := by rw [e]; exact Int.ofNat_dvd_left.2 (Nat.gcd_dvd_left _ _)
  obtain ⟨n, hn⟩ : ((gcdL [bx, bY] : Nat) : Int) ∣ bY := by rw [e]; exact Int.ofNat_dvd_left.2 (Nat.gcd_dvd_right _ _)
  have ea : dirA bx bY = -n := by
    unfold dirA
    generalize gcdL [bx, bY] = g at *
    rw [hn, ← Int.mul_neg]
    exact Int.mul_ediv_cancel_left _ (by omega)
  have eb : dirB bx bY = m := by
    unfold dirB
    generalize gcdL [bx, bY] = g at *
    conv => lhs; rw [hm]
    exact Int.mul_ediv_cancel_left _ (by omega)
  rw [ea, eb]
  constructor
  · have : -n * bx + m * bY = -n * (((gcdL [bx, bY] : Nat) : Int) * m) + m * (((gcdL [bx, bY] : Nat) : Int) * n) := by rw [← hm, ← hn]
    rw [this]; grind
  · by_cases q : n = 0
    · right
      rintro rfl
      apply h0
      rw [q] at hn
      exact ⟨by rw [hm]; simp, by rw [hn]; simp⟩
    · left; omega
end Go.Proofs.Ytabmfaamadbefaa
