/- Plain: a grown region is the set of the spots from which a step of the range leads into the region. No program. -/
import Derived.Test.YtabmfaamadbefaaZb
set_option linter.unusedSimpArgs false
set_option linter.unusedVariables false
set_option linter.unusedSectionVars false
namespace Go.Proofs.Ytabmfaamadbefaa
open Go.RowKit

def movP (x : Pt) (u : Rat) (bx bY : Int) : Pt := ⟨x.x + u * (bx : Rat), x.y + u * (bY : Rat)⟩
theorem val_movP (h : H3) (x : Pt) (u : Rat) (bx bY : Int) : val h (movP x u bx bY) = val h x + u * ((h.a * bx + h.b * bY : Int) : Rat) := by
  unfold val movP; simp only; push_cast; grind
def combP (p q : Pt) (t : Rat) : Pt := ⟨q.x + t * (p.x - q.x), q.y + t * (p.y - q.y)⟩
theorem val_combP (h : H3) (p q : Pt) (t : Rat) : val h (combP p q t) = val h q + t * (val h p - val h q) := by unfold val combP; grind
theorem set_convex {ps : List H3} {p q : Pt} {t : Rat} (hp : setR ps p) (hq : setR ps q) (t0 : 0 ≤ t) (t1 : t ≤ 1) : setR ps (combP p q t) := by
  refine ⟨hp.1, fun g hg => ?_⟩
  have h1 := hp.2 g hg
  have h2 := hq.2 g hg
  unfold In at h1 h2 ⊢
  rw [val_combP]
  have m1 := Rat.mul_le_mul_of_nonneg_left h1 t0
  have m2 := Rat.mul_le_mul_of_nonneg_left h2 (show 0 ≤ 1 - t by grind)
  grind
theorem side_in {ps : List H3} {a b : Int} (kp : regionOk ps = true) (hne : ps ≠ []) (ha : -50000 ≤ a ∧ a ≤ 50000) (hb : -50000 ≤ b ∧ b ≤ 50000) (hz : a ≠ 0 ∨ b ≠ 0) (h : (sideF ps a b).2 = true) {y : Pt} : In (sideF ps a b).1 y ↔ ∃ x, setR ps x ∧ val ⟨a, b, 0⟩ y ≤ val ⟨a, b, 0⟩ x := by
  obtain ⟨⟨p, q⟩, hs⟩ : ∃ v, supN a b ps = v := ⟨_, rfl⟩
  obtain ⟨q0, hle, t0, ht0, hv0⟩ := sup_set kp hne ha hb hz hs
  have qq : (0 : Rat) < (q : Rat) := by exact_mod_cast q0
  unfold sideF at h ⊢
  rw [hs] at h ⊢
  simp only at h ⊢
  rw [half_in' h]
  have e : ((a * q : Int) : Rat) * y.x + ((b * q : Int) : Rat) * y.y = val ⟨a, b, 0⟩ y * (q : Rat) := by unfold val; push_cast; grind
  rw [e]
  constructor
  · intro h1
    refine ⟨t0, ht0, ?_⟩
    apply Classical.byContradiction; intro hn
    have := Rat.mul_pos (show (0 : Rat) < val ⟨a, b, 0⟩ y - val ⟨a, b, 0⟩ t0 by grind) qq
    grind
  · rintro ⟨x, hx, h1⟩
    have h2 := hle x hx
    have := Rat.mul_le_mul_of_nonneg_right h1 (show (0 : Rat) ≤ (q : Rat) by grind)
    grind
/-- A point between two points of a region, seen along a direction: a step along the direction leads into the region. -/
theorem ray_meets {ps : List H3} {a b bx bY : Int} {y P Q : Pt} (hP : setR ps P) (hQ : setR ps Q) (h1 : val ⟨a, b, 0⟩ y ≤ val ⟨a, b, 0⟩ P) (h2 : val ⟨a, b, 0⟩ Q ≤ val ⟨a, b, 0⟩ y) (ho : a * bx + b * bY = 0) (hz : a ≠ 0 ∨ b ≠ 0) (h0 : ¬ (bx = 0 ∧ bY = 0)) : ∃ u : Rat, setR ps (movP y u bx bY) := by
  have hZ : ∃ Z, setR ps Z ∧ val ⟨a, b, 0⟩ Z = val ⟨a, b, 0⟩ y := by
    by_cases e : val ⟨a, b, 0⟩ P = val ⟨a, b, 0⟩ Q
    · exact ⟨P, hP, by grind⟩
    · have d0 : 0 < val ⟨a, b, 0⟩ P - val ⟨a, b, 0⟩ Q := by grind
      obtain ⟨t, ht⟩ : ∃ t : Rat, t * (val ⟨a, b, 0⟩ P - val ⟨a, b, 0⟩ Q) = val ⟨a, b, 0⟩ y - val ⟨a, b, 0⟩ Q := ⟨(val ⟨a, b, 0⟩ y - val ⟨a, b, 0⟩ Q) / (val ⟨a, b, 0⟩ P - val ⟨a, b, 0⟩ Q), by grind⟩
      have t0 : 0 ≤ t := by
        apply Classical.byContradiction; intro hn
        have := Rat.mul_pos (show (0 : Rat) < -t by grind) d0
        grind
      have t1 : t ≤ 1 := by
        apply Classical.byContradiction; intro hn
        have := Rat.mul_pos (show (0 : Rat) < t - 1 by grind) d0
        grind
      exact ⟨combP P Q t, set_convex hP hQ t0 t1, by rw [val_combP, ht]; grind⟩
  obtain ⟨Z, hZ, eZ⟩ := hZ
  have oq : (a : Rat) * bx + (b : Rat) * bY = 0 := by exact_mod_cast ho
  have dz : (a : Rat) * (Z.x - y.x) + (b : Rat) * (Z.y - y.y) = 0 := by unfold val at eZ; simp only at eZ; grind
  have cz : (Z.x - y.x) * (bY : Rat) - (Z.y - y.y) * (bx : Rat) = 0 := by
    rcases hz with n | n
    · have nq : (a : Rat) ≠ 0 := by exact_mod_cast n
      have : (a : Rat) * ((Z.x - y.x) * (bY : Rat) - (Z.y - y.y) * (bx : Rat)) = 0 := by grind
      rcases Rat.mul_eq_zero.1 this with k | k
      · exact absurd k nq
      · exact k
    · have nq : (b : Rat) ≠ 0 := by exact_mod_cast n
      have : (b : Rat) * ((Z.x - y.x) * (bY : Rat) - (Z.y - y.y) * (bx : Rat)) = 0 := by grind
      rcases Rat.mul_eq_zero.1 this with k | k
      · exact absurd k nq
      · exact k
  by_cases hb : bx = 0
  · have hy : bY ≠ 0 := fun q => h0 ⟨hb, q⟩
    have yq : (bY : Rat) ≠ 0 := by exact_mod_cast hy
    have bq : (bx : Rat) = 0 := by rw [hb]; rfl
    obtain ⟨u, hu⟩ : ∃ u : Rat, u * (bY : Rat) = Z.y - y.y := ⟨(Z.y - y.y) / (bY : Rat), by grind⟩
    have zx : Z.x - y.x = 0 := by
      have : (Z.x - y.x) * (bY : Rat) = 0 := by rw [bq] at cz; grind
      rcases Rat.mul_eq_zero.1 this with k | k
      · exact k
      · exact absurd k yq
    have : movP y u bx bY = Z := by
      cases Z with | mk zx' zy' => ?_
      unfold movP
      rw [hu, bq]
      simp only at zx ⊢
      congr 1 <;> grind
    exact ⟨u, by rw [this]; exact hZ⟩
  · have xq : (bx : Rat) ≠ 0 := by exact_mod_cast hb
    obtain ⟨u, hu⟩ : ∃ u : Rat, u * (bx : Rat) = Z.x - y.x := ⟨(Z.x - y.x) / (bx : Rat), by grind⟩
    have zy : u * (bY : Rat) = Z.y - y.y := by
      have : (u * (bY : Rat) - (Z.y - y.y)) * (bx : Rat) = 0 := by grind
      rcases Rat.mul_eq_zero.1 this with k | k
      · grind
      · exact absurd k xq
    have : movP y u bx bY = Z := by
      cases Z with | mk zx' zy' => ?_
      unfold movP
      rw [hu, zy]
      simp only
      congr 1 <;> grind
    exact ⟨u, by rw [this]; exact hZ⟩
theorem grow_in {bx bY lo hi : Int} {g : H3} (h : (growF bx bY lo hi g).2 = true) {y : Pt} : In (growF bx bY lo hi g).1 y ↔ val g y ≤ (g.c : Rat) + ((max (-lo * (g.a * bx + g.b * bY)) (-hi * (g.a * bx + g.b * bY)) : Int) : Rat) := by
  unfold growF at h ⊢
  rw [half_in' h]
  unfold val
  push_cast
  exact Iff.rfl
theorem range_max {lo hi n : Int} {u : Rat} (h1 : (lo : Rat) ≤ u) (h2 : u ≤ (hi : Rat)) : -(u * (n : Rat)) ≤ ((max (-lo * n) (-hi * n) : Int) : Rat) := by
  rcases Int.lt_or_le n 0 with q | q
  · have q1 : (n : Rat) < 0 := by exact_mod_cast q
    have m := Rat.mul_le_mul_of_nonneg_right h2 (show (0 : Rat) ≤ -(n : Rat) by grind)
    have : ((-hi * n : Int) : Rat) ≤ ((max (-lo * n) (-hi * n) : Int) : Rat) := by exact_mod_cast Int.le_max_right _ _
    push_cast at this ⊢
    grind
  · have q1 : (0 : Rat) ≤ (n : Rat) := by exact_mod_cast q
    have m := Rat.mul_le_mul_of_nonneg_right h1 q1
    have : ((-lo * n : Int) : Rat) ≤ ((max (-lo * n) (-hi * n) : Int) : Rat) := by exact_mod_cast Int.le_max_left _ _
    push_cast at this ⊢
    grind
theorem max_lo {lo hi n : Int} (h : lo ≤ hi) (hn : 0 ≤ n) : max (-lo * n) (-hi * n) = -lo * n := by
  have := Int.mul_le_mul_of_nonneg_right (show -hi ≤ -lo by omega) hn
  omega
theorem max_hi {lo hi n : Int} (h : lo ≤ hi) (hn : n ≤ 0) : max (-lo * n) (-hi * n) = -hi * n := by
  have := Int.mul_le_mul_of_nonpos_right (show -hi ≤ -lo by omega) hn
  omega
/-- The step may be taken from the range. -/
theorem clamp_step {ps : List H3} {bx bY lo hi : Int} {y : Pt} {u0 : Rat} (hl : lo ≤ hi) (h0 : setR ps (movP y u0 bx bY)) (hg : ∀ g ∈ ps, val g y ≤ (g.c : Rat) + ((max (-lo * (g.a * bx + g.b * bY)) (-hi * (g.a * bx + g.b * bY)) : Int) : Rat)) : ∃ u : Rat, (lo : Rat) ≤ u ∧ u ≤ (hi : Rat) ∧ setR ps (movP y u bx bY) := by
  have lq : (lo : Rat) ≤ (hi : Rat) := by exact_mod_cast hl
  by_cases c1 : u0 < (lo : Rat)
  · refine ⟨lo, by grind, lq, h0.1, fun g hg' => ?_⟩
    have k1 := hg g hg'
    have k2 := h0.2 g hg'
    unfold In at k2 ⊢
    rw [val_movP] at k2 ⊢
    generalize g.a * bx + g.b * bY = n at *
    rcases Int.lt_or_le n 0 with q | q
    · have q1 : (n : Rat) < 0 := by exact_mod_cast q
      have m := Rat.mul_le_mul_of_nonneg_right (show u0 ≤ (lo : Rat) by grind) (show (0 : Rat) ≤ -(n : Rat) by grind)
      grind
    · rw [max_lo hl q] at k1
      push_cast at k1
      grind
  · by_cases c2 : (hi : Rat) < u0
    · refine ⟨hi, lq, by grind, h0.1, fun g hg' => ?_⟩
      have k1 := hg g hg'
      have k2 := h0.2 g hg'
      unfold In at k2 ⊢
      rw [val_movP] at k2 ⊢
      generalize g.a * bx + g.b * bY = n at *
      rcases Int.lt_or_le 0 n with q | q
      · have q1 : (0 : Rat) < (n : Rat) := by exact_mod_cast q
        have m := Rat.mul_le_mul_of_nonneg_right (show (hi : Rat) ≤ u0 by grind) (show (0 : Rat) ≤ (n : Rat) by grind)
        grind
      · rw [max_hi hl q] at k1
        push_cast at k1
        grind
    · exact ⟨u0, by grind, by grind, h0⟩
theorem dir_small {bx bY : Int} (h1 : -100 ≤ bx ∧ bx ≤ 100) (h2 : -100 ≤ bY ∧ bY ≤ 100) (h0 : ¬ (bx = 0 ∧ bY = 0)) : (-50000 ≤ dirA bx bY ∧ dirA bx bY ≤ 50000) ∧ (-50000 ≤ dirB bx bY ∧ dirB bx bY ≤ 50000) := by
  have := dir_bd h1 h2 h0
  omega
theorem set_grow {ps o : List H3} {bx bY lo hi : Int} (kp : regionOk ps = true) (b1 : -100 ≤ bx ∧ bx ≤ 100) (b2 : -100 ≤ bY ∧ bY ≤ 100) (hl : lo ≤ hi) (h : growM ps bx bY lo hi = (o, true)) {x : Pt} : setR o x ↔ regP (fun x => Inside frameH x ∧ ∃ u : Rat, (lo : Rat) ≤ u ∧ u ≤ (hi : Rat) ∧ setR ps (movP x u bx bY)) x := by
  have lq : (lo : Rat) ≤ (hi : Rat) := by exact_mod_cast hl
  unfold growM at h
  split at h
  · rename_i hc
    injection h with q _
    rw [← q]
    rcases hc with hn | ⟨rfl, rfl⟩
    · rw [hn]
      exact ⟨fun h => absurd h set_void, fun h => by obtain ⟨u, _, _, hu⟩ := h.2.2; exact absurd hu set_void⟩
    · rw [← set_regP kp]
      refine regP_congr fun y => ?_
      have e : ∀ u : Rat, movP y u 0 0 = y := fun u => by
        cases y with | mk y1 y2 => ?_
        unfold movP
        simp only
        congr 1 <;> grind
      constructor
      · intro hy
        exact ⟨set_frame kp hy, lo, by grind, lq, by rw [e]; exact hy⟩
      · rintro ⟨_, u, _, _, hu⟩
        rw [e] at hu
        exact hu
  · rename_i hc
    have hne : ps ≠ [] := fun q => hc (.inl q)
    have h0 : ¬ (bx = 0 ∧ bY = 0) := fun q => hc (.inr q)
    split at h
    · rename_i hk
      obtain ⟨s1, s2, hall⟩ := hk
      simp only [List.all_eq_true] at hall
      obtain ⟨dA, dB⟩ := dir_small b1 b2 h0
      obtain ⟨ort, dz⟩ := dir_ortho h0
      rw [set_meetR (fun g hg => by
        rcases List.mem_cons.1 hg with rfl | hg
        · exact sideF_ok s1
        rcases List.mem_cons.1 hg with rfl | hg
        · exact sideF_ok s2
        obtain ⟨g0, hg0, rfl⟩ := List.mem_map.1 hg
        exact growF_ok (hall g0 hg0)) h]
      refine regP_congr fun y => ?_
      rw [inside_app]
      constructor
      · rintro ⟨h1, h2⟩
        refine ⟨h2, ?_⟩
        obtain ⟨P, hP, vP⟩ := (side_in kp hne dA dB dz s1).1 (h1 _ List.mem_cons_self)
        obtain ⟨Q, hQ, vQ⟩ := (side_in kp hne (by omega) (by omega) (by omega) s2).1 (h1 _ (List.mem_cons_of_mem _ List.mem_cons_self))
        have ev : ∀ z : Pt, val ⟨-dirA bx bY, -dirB bx bY, 0⟩ z = -val ⟨dirA bx bY, dirB bx bY, 0⟩ z := fun z => by unfold val; push_cast; grind
        rw [ev, ev] at vQ
        obtain ⟨u0, hu0⟩ := ray_meets hP hQ vP (by grind) ort dz h0
        exact clamp_step hl hu0 fun g hg => (grow_in (hall g hg)).1 (h1 _ (List.mem_cons_of_mem _ (List.mem_cons_of_mem _ (List.mem_map.2 ⟨g, hg, rfl⟩))))
      · rintro ⟨h2, u, u1, u2, hu⟩
        refine ⟨fun g hg => ?_, h2⟩
        rcases List.mem_cons.1 hg with rfl | hg
        · refine (side_in kp hne dA dB dz s1).2 ⟨_, hu, ?_⟩
          rw [val_movP]
          simp only
          rw [ort]
          grind
        rcases List.mem_cons.1 hg with rfl | hg
        · refine (side_in kp hne (by omega) (by omega) (by omega) s2).2 ⟨_, hu, ?_⟩
          rw [val_movP]
          simp only
          have : -dirA bx bY * bx + -dirB bx bY * bY = 0 := by rw [Int.neg_mul, Int.neg_mul]; omega
          rw [this]
          grind
        obtain ⟨g0, hg0, rfl⟩ := List.mem_map.1 hg
        refine (grow_in (hall g0 hg0)).2 ?_
        have k := hu.2 g0 hg0
        unfold In at k
        rw [val_movP] at k
        have := range_max (n := g0.a * bx + g0.b * bY) u1 u2
        grind
    · injection h with _ q; cases q
end Go.Proofs.Ytabmfaamadbefaa
