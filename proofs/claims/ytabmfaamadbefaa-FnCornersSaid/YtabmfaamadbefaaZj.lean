/- Plain: what FnCorners says of an area's corners. No program. -/
import Derived.Test.YtabmfaamadbefaaZh
import Derived.Test.YtabmfaamadbefaaWn
set_option linter.unusedSimpArgs false
set_option linter.unusedVariables false
set_option linter.unusedSectionVars false
namespace Go.Proofs.Ytabmfaamadbefaa
open Go.RowKit

theorem on_side {h s : H3} (hd : 0 < s.c) : On h (ptOf (s.a, s.b, s.c)) ↔ sideI h s = 0 := by
  have cq : (0 : Rat) < (s.c : Rat) := by exact_mod_cast hd
  have e : val h (ptOf (s.a, s.b, s.c)) * (s.c : Rat) = (h.a : Rat) * s.a + (h.b : Rat) * s.b := by
    unfold val ptOf
    simp only
    grind
  unfold On sideI
  constructor
  · intro o
    rw [o] at e
    have : (h.a * s.a + h.b * s.b : Int) = h.c * s.c := by exact_mod_cast e.symm
    omega
  · intro o
    have : ((h.a * s.a + h.b * s.b : Int) : Rat) = ((h.c * s.c : Int) : Rat) := by congr 1; omega
    push_cast at this
    rw [this] at e
    have e2 : (val h (ptOf (s.a, s.b, s.c)) - (h.c : Rat)) * (s.c : Rat) = 0 := by grind
    rcases Rat.mul_eq_zero.1 e2 with k | k
    · grind
    · grind
theorem corners_at {p : List H3} {k : Nat} (hk : k < p.length) : ∃ h : k < (cornersL p).length, (cornersL p)[k] = cornerH p k := by
  refine ⟨by rw [cornersL_length]; exact hk, ?_⟩
  unfold cornersL
  simp
/-- A corner lies on the borders of its two edges. -/
theorem corner_on {p : List H3} (k : regionOk p = true) (hne : p ≠ []) {i : Nat} (hi : i < p.length) : ∃ hj : (i + 1) % p.length < p.length, 0 < (cornerH p i).c ∧ On p[i] (ptOf ((cornerH p i).a, (cornerH p i).b, (cornerH p i).c)) ∧ On p[(i + 1) % p.length] (ptOf ((cornerH p i).a, (cornerH p i).b, (cornerH p i).c)) ∧ 0 < cross p[i] p[(i + 1) % p.length] := by
  obtain ⟨G, hm, _⟩ := regionOk_parts k hne
  have R := reg_of G hm hne
  obtain ⟨hj, g, a, b, c, g0, e, eh, c0, ok⟩ := R.corner_ok G hi
  obtain ⟨hc, _⟩ := R.crossing hi hj
  have n0 : cross p[i] p[(i + 1) % p.length] ≠ 0 := by omega
  obtain ⟨p1, p2⟩ := cross_on n0
  have p3 := (crossT_on (G _ (List.getElem_mem hi)).nz n0 p1).2 p2
  rw [e, scale_pt g0 c0] at p1 p3
  rw [eh]
  exact ⟨hj, c0, p1, p3, hc⟩
theorem area_three {p : List H3} (A : AreaP p) : 3 ≤ p.length := by
  have hne := area_fat A
  obtain ⟨px, py, pd, ph, L, rfl, hl, D, B⟩ := A
  unfold makeR makeE at hne ⊢
  split
  · rename_i h
    rw [if_pos h] at hne
    exact absurd rfl hne
  · omega
/-- Two corners in a row differ. -/
theorem corners_differ {p : List H3} (k : regionOk p = true) (hne : p ≠ []) {i : Nat} (hi : i < p.length) (hj : (i + 1) % p.length < p.length) : cornerH p ((i + 1) % p.length) ≠ cornerH p i := by
  intro e
  obtain ⟨_, c0, o1, o2, cr1⟩ := corner_on k hne hi
  obtain ⟨hj2, c1, o3, o4, cr2⟩ := corner_on k hne hj
  rw [e] at o3 o4
  obtain ⟨G, hm, _⟩ := regionOk_parts k hne
  have R := reg_of G hm hne
  have hfm : p[(i + 1) % p.length] ∈ pickE (sorted4 p) (sorted4 p).length := by rw [R.edges]; exact List.getElem_mem hj
  obtain ⟨hL, a, b, oa, ob, hab, ia, ib⟩ := (pick_mem R.good _).1 hfm
  have em : ∀ j (h : j < p.length), p[j] ∈ sorted4 p := fun j h => by
    have : p[j] ∈ pickE (sorted4 p) (sorted4 p).length := by rw [R.edges]; exact List.getElem_mem h
    exact ((pick_mem R.good _).1 this).1
  have nf := (G _ (List.getElem_mem hj)).nz
  have cn : cross p[(i + 1) % p.length] p[i] < 0 := by rw [cross_anti]; omega
  have v1 := (crossT_on nf (by omega) o2).1 o1
  have v2 := (crossT_on nf (by omega) o2).1 o4
  have a1 := (in_iff_neg nf cn oa).1 (ia _ (em i hi))
  have b1 := (in_iff_pos nf cr2 ob).1 (ib _ (em _ hj2))
  grind
theorem fits_some {p : List H3} {X Y : Int} (hX : -1000 ≤ X ∧ X ≤ 1000) (hY : -1000 ≤ Y ∧ Y ≤ 1000) (h : hasL p ⟨X, Y, 1⟩ = true) : ∃ k, k < 2001 ∧ fitX p k = true := by
  obtain ⟨k, hk⟩ := Int.eq_ofNat_of_zero_le (show 0 ≤ X + 1000 by omega)
  refine ⟨k, by omega, ?_⟩
  have e : (k : Int) - 1000 = X := by omega
  have : (colI X p).1 ≤ Y ∧ Y ≤ (colI X p).2 := (col_iff X Y).2 ⟨hY, fun g hg => by
    have := (hasL_iff.1 h).2 g hg
    unfold sideI at this
    simp only at this
    omega⟩
  unfold fitX
  rw [e]
  exact decide_eq_true (by omega)
theorem least_nat {P : Nat → Prop} [DecidablePred P] : ∀ n, P n → ∃ m, m ≤ n ∧ P m ∧ ∀ j, j < m → ¬ P j := by
  intro n
  induction n using Nat.strongRecOn with
  | ind n ih =>
    intro h
    by_cases q : ∃ j, j < n ∧ P j
    · obtain ⟨j, hj, hp⟩ := q
      obtain ⟨m, hm, hp2, hl⟩ := ih j hj hp
      exact ⟨m, by omega, hp2, hl⟩
    · exact ⟨n, Nat.le_refl _, h, fun j hj hp => q ⟨j, hj, hp⟩⟩
/-- An area has a whole spot, and the program finds one. -/
theorem area_inner {p : List H3} (A : AreaP p) : ∃ X Y : Int, innerR p = ((X, Y, 1), true) ∧ (-1000 ≤ X ∧ X ≤ 1000) ∧ (-1000 ≤ Y ∧ Y ≤ 1000) ∧ hasSpotR p X Y 1 = true ∧ 0 < wholeN p := by
  have kp := area_ok A
  obtain ⟨X0, Y0, hX, hY, h0⟩ := area_spot A
  obtain ⟨k0, hk0, hf0⟩ := fits_some (by omega) (by omega) h0
  obtain ⟨k, hk, hf, hl⟩ := least_nat (P := fun k => fitX p k = true) k0 hf0
  have hn : ∀ j, j < k → fitX p j = false := fun j hj => by simpa using hl j hj
  have hi := inner_hit (by omega) hn hf
  refine ⟨(k : Int) - 1000, (colI ((k : Int) - 1000) p).1, ?_, by omega, ?_⟩
  · unfold innerR
    rw [if_pos ⟨kp, area_fat A⟩]
    exact hi
  · unfold fitX at hf
    have hle := of_decide_eq_true hf
    obtain ⟨hb, hall⟩ := (col_iff ((k : Int) - 1000) (colI ((k : Int) - 1000) p).1).1 ⟨Int.le_refl _, hle⟩
    refine ⟨hb, ?_, whole_pos kp (by omega) (by omega) h0⟩
    unfold hasSpotR
    rw [kp, wspot_ok (by omega) hb, Bool.true_and, Bool.true_and, hasL_iff]
    refine ⟨area_fat A, fun g hg => ?_⟩
    have := hall g hg
    unfold sideI
    simp only
    omega
/-- What FnCorners asks at a corner. -/
structure CornerP (p : List H3) (i : Nat) (s t f g : H3) : Prop where
  ok : okS s = true
  has : hasSpotR p s.a s.b s.c = true
  isc : isCornerR p s = true
  kf : HOk f
  kg : HOk g
  onf : sideI f s = 0
  ong : sideI g s = 0
  ne : t ≠ s
theorem area_corner {p : List H3} (A : AreaP p) {i : Nat} (hi : i < p.length) : ∃ (hj : (i + 1) % p.length < p.length) (h1 : i < (cornersL p).length) (h2 : (i + 1) % p.length < (cornersL p).length), CornerP p i (cornersL p)[i] (cornersL p)[(i + 1) % p.length] p[i] p[(i + 1) % p.length] := by
  have kp := area_ok A
  have hne := area_fat A
  obtain ⟨hj, c0, o1, o2, _⟩ := corner_on kp hne hi
  obtain ⟨h1, e1⟩ := corners_at hi
  obtain ⟨h2, e2⟩ := corners_at hj
  refine ⟨hj, h1, h2, ?_⟩
  have hm : (cornersL p)[i] ∈ cornersL p := List.getElem_mem h1
  obtain ⟨ks, _, hs⟩ := corner_set kp hm
  have okk := (region_good kp).1
  refine ⟨ks, (has_spot kp ks).2 hs, ?_, okk _ (List.getElem_mem hi), okk _ (List.getElem_mem hj), ?_, ?_, ?_⟩
  · unfold isCornerR cornersR
    rw [if_pos kp]
    exact decide_eq_true hm
  · rw [e1]; exact (on_side c0).1 o1
  · rw [e1]; exact (on_side c0).1 o2
  · rw [e1, e2]; exact corners_differ kp hne hi hj
theorem area_sorted {p : List H3} (A : AreaP p) {i : Nat} (hi : i + 1 < p.length) : before p[i] p[i + 1] = true := by
  have kp := area_ok A
  have hne := area_fat A
  obtain ⟨G, hm, _⟩ := regionOk_parts kp hne
  have R := reg_of G hm hne
  have hs : Sorted p := by rw [← R.edges]; exact pick_sorted R.good
  exact sorted_get hs (by omega) hi (by omega)
end Go.Proofs.Ytabmfaamadbefaa
