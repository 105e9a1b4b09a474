/- Several texts in one: Fp, Fi, Gl. Each says its own conditions. -/
import Derived.Test.YtabmfaamadbefaaEp
import Derived.Test.YtabmfaamadbefaaHs
import Derived.Test.YtabmfaamadbefaaPq
/- Plain: a spot lies in a made region exactly if all half planes hold at it; what FnPulled says of a region pulled back. No program. -/
set_option linter.unusedSimpArgs false
set_option linter.unusedVariables false
set_option linter.unusedSectionVars false
namespace Go.Proofs.Ytabmfaamadbefaa
open Go.RowKit

theorem in_side {h s : H3} (hd : 0 < s.c) : In h (ptOf (s.a, s.b, s.c)) ↔ sideI h s ≤ 0 := by
  rw [in_ptOf h (p := (s.a, s.b, s.c)) hd]
  unfold sideI
  simp only
  omega
theorem made_edges {hs : List H3} (ok : ∀ g ∈ hs, HOk g) (hne : makeR hs ≠ []) : (∀ x, x ∈ makeR hs ↔ x ∈ sorted4 hs ∧ Edge (sorted4 hs) x) ∧ ¬ Void (sorted4 hs) ∧ ∃ e ∈ sorted4 hs, Edge (sorted4 hs) e := by
  have G := good_sorted ok
  have eP := makeE_some (L := sorted4 hs) hne
  have eP' : makeR hs = pickE (sorted4 hs) (sorted4 hs).length := eP
  have mP : ∀ x, x ∈ makeR hs ↔ x ∈ sorted4 hs ∧ Edge (sorted4 hs) x := fun x => by rw [eP']; exact pick_mem G x
  have l3 : ¬ (makeR hs).length < 3 := fun h => by
    rw [eP'] at h
    exact hne (if_pos h)
  refine ⟨mP, fun v => ?_, ?_⟩
  · have := void_few G v
    rw [← eP'] at this; exact l3 this
  · obtain ⟨x, hx⟩ := List.exists_mem_of_ne_nil _ hne
    exact ⟨x, (mP x).1 hx⟩
theorem made_inside {hs : List H3} (ok : ∀ g ∈ hs, HOk g) (hne : makeR hs ≠ []) {x : Pt} : (∀ e ∈ makeR hs, In e x) ↔ Inside (hs ++ frameH) x := by
  obtain ⟨mP, nv, ne⟩ := made_edges ok hne
  rw [← inside_sorted ok]
  constructor
  · intro h
    exact edges_inside (good_sorted ok) nv ne (fun e he ee => h e ((mP e).2 ⟨he, ee⟩))
  · intro h g hg
    exact h g ((mP g).1 hg).1
theorem hasL_iff {hs : List H3} {s : H3} : hasL hs s = true ↔ hs ≠ [] ∧ ∀ h ∈ hs, sideI h s ≤ 0 := by
  unfold hasL
  simp only [Bool.and_eq_true, decide_eq_true_eq, List.all_eq_true]
/-- A spot lies in a made region exactly if all half planes hold at it. -/
theorem has_made {hs : List H3} {s : H3} (ok : ∀ g ∈ hs, HOk g) (hne : makeR hs ≠ []) (hd : 0 < s.c) : hasL (makeR hs) s = true ↔ ∀ h ∈ hs ++ frameH, sideI h s ≤ 0 := by
  rw [hasL_iff]
  have e := made_inside ok hne (x := ptOf (s.a, s.b, s.c))
  constructor
  · intro h g hg
    exact (in_side hd).1 (e.1 (fun e' he' => (in_side hd).2 (h.2 e' he')) g hg)
  · intro h
    refine ⟨hne, fun g hg => (in_side hd).1 (e.2 (fun e' he' => (in_side hd).2 (h e' he')) g hg)⟩
theorem in_frame {s : H3} (hf : -1000 * s.c ≤ s.a ∧ s.a ≤ 1000 * s.c ∧ -1000 * s.c ≤ s.b ∧ s.b ≤ 1000 * s.c) : ∀ h ∈ frameH, sideI h s ≤ 0 := by
  intro h hh
  simp only [frameH, List.mem_cons, List.not_mem_nil, or_false] at hh
  rcases hh with rfl | rfl | rfl | rfl <;> (unfold sideI; simp only; omega)
theorem half_scale {a b c : Int} {g : H3} (h : halfOf a b c = (g, true)) : ∃ k : Nat, 0 < k ∧ a = g.a * k ∧ b = g.b * k ∧ c = g.c * k := by
  unfold halfOf at h
  split at h
  · injection h with _ h; cases h
  · rename_i hb
    split at h
    · injection h with h _
      subst h
      obtain ⟨h1, h2, h3⟩ := gcdL3_dvd a b c
      by_cases hz : a = 0 ∧ b = 0 ∧ c = 0
      · obtain ⟨rfl, rfl, rfl⟩ := hz
        exact ⟨1, by omega, by simp, by simp, by simp⟩
      · obtain ⟨k, x, y, z, e, k0, ea, eb, ec, qa, qb, qc⟩ := gcd3_parts hz
        exact ⟨k, k0, by simp only [e, qa]; exact ea, by simp only [e, qb]; exact eb, by simp only [e, qc]; exact ec⟩
    · injection h with _ h; cases h
theorem spot_scale {x y d a b c : Int} (hd : 0 < d) (h : spotOf x y d = ((a, b, c), true)) : ∃ k : Nat, 0 < k ∧ x = a * k ∧ y = b * k ∧ d = c * k := by
  unfold spotOf at h
  split at h
  · injection h with _ h; cases h
  · split at h
    · injection h with h _
      obtain ⟨k, p, q, r, e, k0, ea, eb, ec, qa, qb, qc, _, _⟩ := reduced (x := x) (y := y) hd
      rw [e, qa, qb, qc] at h
      simp only [Prod.mk.injEq] at h
      obtain ⟨rfl, rfl, rfl⟩ := h
      exact ⟨k, k0, ea, eb, ec⟩
    · injection h with _ h; cases h
theorem scale_le {n : Int} {k : Nat} (hk : 0 < k) : n * (k : Int) ≤ 0 ↔ n ≤ 0 := by
  constructor
  · intro h
    rcases Int.lt_or_le 0 n with q | q
    · have := Int.mul_pos q (show (0 : Int) < k by omega); omega
    · exact q
  · intro h
    exact Int.mul_nonpos_of_nonpos_of_nonneg h (by omega)
/-- A half plane pulled back holds at a spot exactly if it holds where the spot is mapped to. -/
theorem pull_side {a b e f q x y d X Y D : Int} {g g' : H3} (hq : 0 < q) (hd : 0 < d) (hp : pullF a b e f q g = (g', true)) (hs : spotOf (a * x + b * y) (e * x + f * y) (q * d) = ((X, Y, D), true)) : sideI g' ⟨x, y, d⟩ ≤ 0 ↔ sideI g ⟨X, Y, D⟩ ≤ 0 := by
  unfold pullF at hp
  obtain ⟨k, k0, ea, eb, ec⟩ := half_scale hp
  obtain ⟨m, m0, fx, fy, fd⟩ := spot_scale (Int.mul_pos hq hd) hs
  rw [← scale_le (n := sideI g' ⟨x, y, d⟩) k0, ← scale_le (n := sideI g ⟨X, Y, D⟩) m0]
  have : sideI g' ⟨x, y, d⟩ * (k : Int) = sideI g ⟨X, Y, D⟩ * (m : Int) := by
    unfold sideI
    simp only
    have l : (g'.a * x + g'.b * y - g'.c * d) * (k : Int) = (g'.a * k) * x + (g'.b * k) * y - (g'.c * k) * d := by grind
    have r : (g.a * X + g.b * Y - g.c * D) * (m : Int) = g.a * (X * m) + g.b * (Y * m) - g.c * (D * m) := by grind
    rw [l, r, ← ea, ← eb, ← ec, ← fx, ← fy, ← fd]
    grind
  rw [this]
/-- What FnPulled says of a spot within the frame. -/
theorem pulled_has {m : List Int} {q x y X Y D : Int} {p b : List H3} (hq : 0 < q) (kp : regionOk p = true) (hpl : pullR m q p = (b, true)) (hx : -40 ≤ x ∧ x ≤ 40) (hy : -40 ≤ y ∧ y ≤ 40) (hs : spotOf (m.getD 0 0 * x + m.getD 1 0 * y) (m.getD 2 0 * x + m.getD 3 0 * y) (q * 1) = ((X, Y, D), true)) (hne : b ≠ []) : hasL b ⟨x, y, 1⟩ = hasL p ⟨X, Y, D⟩ := by
  unfold pullR at hpl
  split at hpl
  · rename_i hc
    unfold movedF at hpl
    split at hpl
    · injection hpl with h1 _; exact absurd h1.symm hne
    · rename_i hpn
      split at hpl
      · rename_i hall
        simp only [List.all_eq_true] at hall
        have okL : ∀ g ∈ p.map (fun g => (pullF (m.getD 0 0) (m.getD 1 0) (m.getD 2 0) (m.getD 3 0) q g).1), HOk g := fun g hg => by
          obtain ⟨g0, hg0, rfl⟩ := List.mem_map.1 hg
          exact halfOf_ok (v := _) rfl (hall g0 hg0)
        have hb : b = makeR (p.map (fun g => (pullF (m.getD 0 0) (m.getD 1 0) (m.getD 2 0) (m.getD 3 0) q g).1)) := by
          rw [meetR_makeR okL] at hpl
          split at hpl
          · injection hpl with _ h2; cases h2
          · injection hpl with h1 _; exact h1.symm
        have hs3 : ∀ g ∈ p, sideI (pullF (m.getD 0 0) (m.getD 1 0) (m.getD 2 0) (m.getD 3 0) q g).1 ⟨x, y, 1⟩ ≤ 0 ↔ sideI g ⟨X, Y, D⟩ ≤ 0 := fun g hg => pull_side hq (by omega) (Prod.ext rfl (hall g hg)) hs
        rw [Bool.eq_iff_iff, hb, has_made okL (by rw [← hb]; exact hne) (by simp), hasL_iff]
        constructor
        · intro h
          refine ⟨hpn, fun g hg => (hs3 g hg).1 (h _ (List.mem_append_left _ (List.mem_map.2 ⟨g, hg, rfl⟩)))⟩
        · intro h g hg
          rcases List.mem_append.1 hg with h1 | h1
          · obtain ⟨g0, hg0, rfl⟩ := List.mem_map.1 h1
            exact (hs3 g0 hg0).2 (h.2 g0 hg0)
          · exact in_frame (s := ⟨x, y, 1⟩) ⟨by simp; omega, by simp; omega, by simp; omega, by simp; omega⟩ g h1
      · injection hpl with _ h2; cases h2
  · injection hpl with _ h2; cases h2
theorem pulled_ok {m : List Int} {q : Int} {p b : List H3} (hpl : pullR m q p = (b, true)) : regionOk b = true := by
  unfold pullR at hpl
  split at hpl
  · exact movedF_ok (fun g _ hg => halfOf_ok (v := _) rfl hg) hpl
  · injection hpl with _ h2; cases h2
/-- A region made of few half planes is valid. -/
theorem made_ok {L : List H3} (ok : ∀ g ∈ L, HOk g) (hl : L.length ≤ 30) : regionOk (makeR L) = true := by
  have h4 : (makeR L).length ≤ 40 := by
    have h1 := sortH_length (L ++ frameH)
    have h2 := pickE_len (sorted4 L) (sorted4 L).length
    have h3 : (sorted4 L).length ≤ 34 := by
      have : (L ++ frameH).length = L.length + 4 := by simp [frameH]
      have : (sorted4 L).length ≤ (L ++ frameH).length := h1
      omega
    unfold makeR makeE
    split
    · simp
    · omega
  refine meetR_ok ok (hs := L) (out := makeR L) ?_
  rw [meetR_makeR ok, if_neg (by omega)]
theorem map_fine {a b e f q x y : Int} (ha : -5 ≤ a ∧ a ≤ 5) (hb : -5 ≤ b ∧ b ≤ 5) (he : -5 ≤ e ∧ e ≤ 5) (hf : -5 ≤ f ∧ f ≤ 5) (hq : 1 ≤ q ∧ q ≤ 5) (hx : -40 ≤ x ∧ x ≤ 40) (hy : -40 ≤ y ∧ y ≤ 40) : ∃ X Y D : Int, spotOf (a * x + b * y) (e * x + f * y) (q * 1) = ((X, Y, D), true) ∧ spotOk X Y D = true := by
  have k1 := mul_bd (A := 5) (B := 40) ha hx
  have k2 := mul_bd (A := 5) (B := 40) hb hy
  have k3 := mul_bd (A := 5) (B := 40) he hx
  have k4 := mul_bd (A := 5) (B := 40) hf hy
  obtain ⟨g, X, Y, D, _, _, h, _, _, k⟩ := spotOf_frame (p := (a * x + b * y, e * x + f * y, q * 1)) (by simp only; omega) (by simp only; omega) (by refine ⟨?_, ?_, ?_, ?_⟩ <;> simp only <;> omega)
  exact ⟨X, Y, D, h, k⟩
end Go.Proofs.Ytabmfaamadbefaa

/- Plain: a list of half planes with a point strictly inside all has an edge; a region made of it is not void. No program. -/
set_option linter.unusedSimpArgs false
set_option linter.unusedVariables false
set_option linter.unusedSectionVars false
namespace Go.Proofs.Ytabmfaamadbefaa
open Go.RowKit

def ray (x : Pt) (i : Nat) (t : Rat) : Pt := ⟨x.x + t, x.y + t * (i : Rat)⟩
def slope2 (h : H3) (i : Nat) : Rat := (h.a : Rat) + (h.b : Rat) * (i : Rat)
theorem val_ray (h : H3) (x : Pt) (i : Nat) (t : Rat) : val h (ray x i t) = val h x + t * slope2 h i := by unfold val ray slope2; grind
theorem exit_ray {x : Pt} (i : Nat) : ∀ L : List H3, (∀ h ∈ L, val h x < (h.c : Rat)) → (∀ h ∈ L, slope2 h i ≤ 0) ∨ ∃ t : Rat, 0 < t ∧ Inside L (ray x i t) ∧ ∃ h ∈ L, On h (ray x i t)
  | [], _ => .inl (fun h hh => by cases hh)
  | g :: L, hs => by
    have hg := hs g List.mem_cons_self
    have hL : ∀ h ∈ L, val h x < (h.c : Rat) := fun h hh => hs h (List.mem_cons_of_mem _ hh)
    have low : ∀ (h : H3) (t : Rat), val h x < (h.c : Rat) → slope2 h i ≤ 0 → 0 ≤ t → In h (ray x i t) := fun h t h1 h2 h3 => by
      unfold In
      rw [val_ray]
      have := Rat.mul_le_mul_of_nonneg_left h2 h3
      grind
    have mid : ∀ (h : H3) (t t' : Rat), val h x < (h.c : Rat) → 0 ≤ t → t ≤ t' → In h (ray x i t') → In h (ray x i t) := fun h t t' h1 h2 h3 h4 => by
      rcases Rat.le_total (a := slope2 h i) (b := 0) with q | q
      · exact low h t h1 q h2
      · unfold In at h4 ⊢
        rw [val_ray] at h4 ⊢
        have := Rat.mul_le_mul_of_nonneg_right h3 q
        grind
    by_cases q : slope2 g i ≤ 0
    · rcases exit_ray i L hL with h1 | ⟨t, t0, h1, h, hh, ho⟩
      · left
        intro h hh
        rcases List.mem_cons.1 hh with rfl | hh
        · exact q
        · exact h1 h hh
      · right
        refine ⟨t, t0, fun h' hh' => ?_, h, List.mem_cons_of_mem _ hh, ho⟩
        rcases List.mem_cons.1 hh' with rfl | hh'
        · exact low _ t hg q (by grind)
        · exact h1 h' hh'
    · have q' : 0 < slope2 g i := by grind
      obtain ⟨tg, htg⟩ : ∃ tg : Rat, tg * slope2 g i = (g.c : Rat) - val g x := ⟨((g.c : Rat) - val g x) / slope2 g i, by grind⟩
      have tg0 : 0 < tg := by
        apply Classical.byContradiction; intro hn
        have := Rat.mul_le_mul_of_nonneg_right (show tg ≤ 0 by grind) (show 0 ≤ slope2 g i by grind)
        grind
      have og : On g (ray x i tg) := by unfold On; rw [val_ray]; grind
      right
      rcases exit_ray i L hL with h1 | ⟨t, t0, h1, h, hh, ho⟩
      · refine ⟨tg, tg0, fun h' hh' => ?_, g, List.mem_cons_self, og⟩
        rcases List.mem_cons.1 hh' with rfl | hh'
        · unfold In; unfold On at og; grind
        · exact low h' tg (hL h' hh') (h1 h' hh') (by grind)
      · rcases Rat.le_total (a := tg) (b := t) with r | r
        · refine ⟨tg, tg0, fun h' hh' => ?_, g, List.mem_cons_self, og⟩
          rcases List.mem_cons.1 hh' with rfl | hh'
          · unfold In; unfold On at og; grind
          · exact mid h' tg t (hL h' hh') (by grind) r (h1 h' hh')
        · refine ⟨t, t0, fun h' hh' => ?_, h, List.mem_cons_of_mem _ hh, ho⟩
          rcases List.mem_cons.1 hh' with rfl | hh'
          · exact mid _ t tg hg (by grind) r (by unfold In; unfold On at og; grind)
          · exact h1 h' hh'
theorem pigeon {α : Type} (R : Nat → α → Prop) : ∀ (L : List α), ∀ R : Nat → α → Prop, (∀ i, i ≤ L.length → ∃ h ∈ L, R i h) → ∃ i j, i < j ∧ ∃ h ∈ L, R i h ∧ R j h
  | [], R, hR => by obtain ⟨h, hh, _⟩ := hR 0 (Nat.le_refl _); cases hh
  | g :: L, R, hR => by
    classical
    by_cases two : ∃ i j, i < j ∧ R i g ∧ R j g
    · obtain ⟨i, j, hij, h1, h2⟩ := two
      exact ⟨i, j, hij, g, List.mem_cons_self, h1, h2⟩
    · by_cases one : ∃ i, R i g
      · obtain ⟨i0, h0⟩ := one
        have only : ∀ i, R i g → i = i0 := fun i hi => by
          rcases Nat.lt_trichotomy i i0 with q | q | q
          · exact absurd ⟨i, i0, q, hi, h0⟩ two
          · exact q
          · exact absurd ⟨i0, i, q, h0, hi⟩ two
        obtain ⟨i, j, hij, h, hh, h1, h2⟩ := pigeon R L (fun i h => R (if i < i0 then i else i + 1) h) (fun i hi => by
          obtain ⟨h, hh, hr⟩ := hR (if i < i0 then i else i + 1) (by simp only [List.length_cons]; split <;> omega)
          rcases List.mem_cons.1 hh with rfl | hh
          · have := only _ hr
            split at this <;> omega
          · exact ⟨h, hh, hr⟩)
        exact ⟨_, _, by (try simp only); split <;> split <;> omega, h, List.mem_cons_of_mem _ hh, h1, h2⟩
      · obtain ⟨i, j, hij, h, hh, h1, h2⟩ := pigeon R L R (fun i hi => by
          obtain ⟨h, hh, hr⟩ := hR i (by simp only [List.length_cons]; omega)
          rcases List.mem_cons.1 hh with rfl | hh
          · exact absurd ⟨i, hr⟩ one
          · exact ⟨h, hh, hr⟩)
        exact ⟨i, j, hij, h, List.mem_cons_of_mem _ hh, h1, h2⟩
theorem right_half {L : List H3} (G : Good L) (i : Nat) : ∃ h ∈ L, 0 < slope2 h i := by
  obtain ⟨y, hy, t⟩ := G.frame ⟨1, 0, 1000⟩ (by simp [frameH])
  obtain ⟨hc, hu⟩ := (sameDir_iff _ _).1 t.1
  have hb : y.b = 0 := by unfold cross at hc; simp only at hc; omega
  have ha : 0 < y.a := by
    unfold upB at hu
    rw [hb] at hu
    simpa using hu
  refine ⟨y, hy, ?_⟩
  unfold slope2
  rw [hb]
  have h1 : (0 : Rat) < (y.a : Rat) := by exact_mod_cast ha
  have h2 : ((0 : Int) : Rat) = 0 := rfl
  rw [h2]
  grind
theorem edge_inner {L : List H3} (G : Good L) {x : Pt} (hs : ∀ h ∈ L, val h x < (h.c : Rat)) : ∃ e ∈ L, Edge L e := by
  obtain ⟨i, j, hij, h, hh, ⟨t1, p1, i1, o1⟩, ⟨t2, p2, i2, o2⟩⟩ := pigeon (fun _ _ => True) L (fun i h => ∃ t : Rat, 0 < t ∧ Inside L (ray x i t) ∧ On h (ray x i t)) (fun i _ => by
    rcases exit_ray i L hs with h1 | ⟨t, t0, h1, h, hh, ho⟩
    · obtain ⟨h, hh, hp⟩ := right_half G i
      have := h1 h hh
      exact absurd hp (by grind)
    · exact ⟨h, hh, t, t0, h1, ho⟩)
  have np := nrm_pos (G.nz h hh)
  have nq : (0 : Rat) < (nrm h : Rat) := by exact_mod_cast np
  have ne : prm h (ray x i t1) ≠ prm h (ray x j t2) := fun e => by
    unfold On at o1 o2
    have ev : val h (ray x i t1) = val h (ray x j t2) := by rw [o1, o2]
    have nn : (nrm h : Rat) = (h.a : Rat) * h.a + (h.b : Rat) * h.b := by unfold nrm; push_cast; rfl
    have dx : (nrm h : Rat) * (t1 - t2) = 0 := by
      rw [nn]
      unfold val at ev; unfold prm at e; unfold ray at ev e
      simp only at ev e
      grind
    have et : t1 = t2 := by grind
    have dy : (nrm h : Rat) * (t1 * (i : Rat) - t2 * (j : Rat)) = 0 := by
      rw [nn]
      unfold val at ev; unfold prm at e; unfold ray at ev e
      simp only at ev e
      grind
    subst et
    have e3 : t1 * ((i : Rat) - (j : Rat)) = 0 := by grind
    have e4 : (i : Rat) = (j : Rat) := by grind
    have : i = j := by exact_mod_cast e4
    omega
  refine ⟨h, hh, ?_⟩
  rcases Rat.le_total (a := prm h (ray x i t1)) (b := prm h (ray x j t2)) with q | q
  · exact ⟨_, _, o1, o2, by grind, i1, i2⟩
  · exact ⟨_, _, o2, o1, by grind, i2, i1⟩
theorem not_void_inner {L : List H3} (G : Good L) {x : Pt} (hs : ∀ h ∈ L, val h x < (h.c : Rat)) : ¬ Void L := by
  rintro ⟨g, hg, h, hh, d, k, v⟩
  have := void_on G hg hh d k v (p := x) (fun y hy => by have := hs y hy; unfold In; grind)
  have h2 := hs h hh
  unfold On at this
  grind
/-- A region made of half planes with a point strictly inside them and the frame is not void. -/
theorem made_inner {hs : List H3} (ok : ∀ g ∈ hs, HOk g) {x : Pt} (hx : ∀ h ∈ hs ++ frameH, val h x < (h.c : Rat)) : makeR hs ≠ [] := by
  have G := good_sorted ok
  have nz : AllNZ (hs ++ frameH) := fun y hy => by
    rcases List.mem_append.1 hy with h | h
    · exact (ok y h).nz
    · exact (frameH_ok y h).nz
  have h1 : ∀ h ∈ sorted4 hs, val h x < (h.c : Rat) := fun h hh => hx h (sortH_mem nz hh)
  obtain ⟨e, he, ee⟩ := edge_inner G h1
  have h3 := many_edges G (not_void_inner G h1) he ee
  unfold makeR makeE
  rw [if_neg (by omega)]
  intro h
  rw [h] at h3
  simp at h3
theorem on_both {e g : H3} (hc : cross e g ≠ 0) {p q : Pt} (p1 : On e p) (p2 : On g p) (q1 : On e q) (q2 : On g q) : prm g p = prm g q := by
  have hq : (cross e g : Rat) ≠ 0 := by exact_mod_cast hc
  have hd : (cross e g : Rat) = (e.a : Rat) * g.b - (e.b : Rat) * g.a := by unfold cross; push_cast; rfl
  unfold On val at p1 p2 q1 q2
  have dx : (cross e g : Rat) * (p.x - q.x) = 0 := by rw [hd]; grind
  have dy : (cross e g : Rat) * (p.y - q.y) = 0 := by rw [hd]; grind
  have ex : p.x = q.x := by grind
  have ey : p.y = q.y := by grind
  unfold prm
  rw [ex, ey]
def mid3 (p q r : Pt) : Pt := ⟨(p.x + q.x + r.x) / 3, (p.y + q.y + r.y) / 3⟩
theorem val_mid3 (h : H3) (p q r : Pt) : val h (mid3 p q r) * 3 = val h p + val h q + val h r := by unfold val mid3; grind
/-- Three points of a region that do not lie on one line: their middle is strictly inside. -/
theorem mid_strict {L : List H3} (G : Good L) {e : H3} (he : e ∈ L) {p q r : Pt} (p1 : On e p) (q1 : On e q) (hpq : prm e p < prm e q) (r1 : ¬ On e r) (ip : Inside L p) (iq : Inside L q) (ir : Inside L r) : ∀ h ∈ L, val h (mid3 p q r) < (h.c : Rat) := by
  intro h hh
  have a1 := ip h hh
  have a2 := iq h hh
  have a3 := ir h hh
  have m := val_mid3 h p q r
  apply Classical.byContradiction; intro hn
  unfold In at a1 a2 a3
  have o1 : On h p := by unfold On; grind
  have o2 : On h q := by unfold On; grind
  have o3 : On h r := by unfold On; grind
  by_cases hc : cross h e = 0
  · -- the same line: r would lie on e
    have nh := G.nz h hh
    have hd : (h.a : Rat) * e.b - (h.b : Rat) * e.a = 0 := by
      have : ((cross h e : Int) : Rat) = 0 := by rw [hc]; rfl
      unfold cross at this; push_cast at this; exact this
    apply r1
    unfold On val at o1 o3 p1 ⊢
    have k1 : (h.a : Rat) * ((e.a : Rat) * r.x + (e.b : Rat) * r.y - e.c) = 0 := by
      have : (h.a : Rat) * ((e.a : Rat) * (r.x - p.x) + (e.b : Rat) * (r.y - p.y)) = 0 := by grind
      grind
    have k2 : (h.b : Rat) * ((e.a : Rat) * r.x + (e.b : Rat) * r.y - e.c) = 0 := by
      have : (h.b : Rat) * ((e.a : Rat) * (r.x - p.x) + (e.b : Rat) * (r.y - p.y)) = 0 := by grind
      grind
    rcases nh with n | n
    · have nq : (h.a : Rat) ≠ 0 := by exact_mod_cast n
      grind
    · have nq : (h.b : Rat) ≠ 0 := by exact_mod_cast n
      grind
  · have := on_both hc o1 p1 o2 q1
    grind
/-- A region that is not void has a point strictly inside its half planes and the frame. -/
theorem inner_of {hs : List H3} (ok : ∀ g ∈ hs, HOk g) (hne : makeR hs ≠ []) : ∃ x : Pt, ∀ h ∈ sorted4 hs, val h x < (h.c : Rat) := by
  have G := good_sorted ok
  obtain ⟨_, nv, e, he, ee⟩ := made_edges ok hne
  obtain ⟨g, v, N⟩ := next_exists G nv he ee
  obtain ⟨p, q, p1, q1, hpq, ip, iq⟩ := ee
  obtain ⟨p', q', p1', q1', hpq', ip', iq'⟩ := N.eg
  have hc : cross e g ≠ 0 := by have := N.turn; omega
  by_cases h1 : On e p'
  · by_cases h2 : On e q'
    · have := on_both hc h1 p1' h2 q1'
      grind
    · exact ⟨_, mid_strict G he p1 q1 hpq h2 ip iq iq'⟩
  · exact ⟨_, mid_strict G he p1 q1 hpq h1 ip iq ip'⟩
theorem Tle.strict {y k : H3} (ny : NZ y) (nk : NZ k) (t : Tle y k) {p : Pt} (h : val y p < (y.c : Rat)) : val k p < (k.c : Rat) := by
  obtain ⟨ea, eb⟩ := prop_of_sameDir ny nk t.1
  have q1 : (y.a : Rat) * (sizeH k : Rat) = (k.a : Rat) * (sizeH y : Rat) := by exact_mod_cast ea
  have q2 : (y.b : Rat) * (sizeH k : Rat) = (k.b : Rat) * (sizeH y : Rat) := by exact_mod_cast eb
  have q3 : (y.c : Rat) * (sizeH k : Rat) ≤ (k.c : Rat) * (sizeH y : Rat) := by exact_mod_cast t.2
  have sk : (0 : Rat) < (sizeH k : Rat) := by exact_mod_cast size_pos nk
  have sy : (0 : Rat) < (sizeH y : Rat) := by exact_mod_cast size_pos ny
  have e : val k p * (sizeH y : Rat) = val y p * (sizeH k : Rat) := by unfold val; grind
  have m2 := Rat.mul_pos sk (show (0 : Rat) < (y.c : Rat) - val y p by grind)
  apply Classical.byContradiction; intro hn
  have m1 := Rat.mul_le_mul_of_nonneg_left (c := (sizeH y : Rat)) (show (k.c : Rat) ≤ val k p by grind) (by grind)
  grind
/-- A region that is not void has a point strictly inside all it was made of, and the frame. -/
theorem inner_all {hs : List H3} (ok : ∀ g ∈ hs, HOk g) (hne : makeR hs ≠ []) : ∃ x : Pt, ∀ h ∈ hs ++ frameH, val h x < (h.c : Rat) := by
  obtain ⟨x, hx⟩ := inner_of ok hne
  have nz : AllNZ (hs ++ frameH) := fun y hy => by
    rcases List.mem_append.1 hy with h | h
    · exact (ok y h).nz
    · exact (frameH_ok y h).nz
  refine ⟨x, fun h hh => ?_⟩
  obtain ⟨y, hy, t⟩ := sortH_cover nz hh
  exact Tle.strict ((good_sorted ok).nz y hy) (nz h hh) t (hx y hy)
end Go.Proofs.Ytabmfaamadbefaa

/- Plain: the support of a region is the greatest value over all its points; an edge of a met region has a point in both parts. No program. -/
set_option linter.unusedVariables false
set_option linter.unusedSimpArgs false
set_option linter.unusedSectionVars false
namespace Go.Proofs.Ytabmfaamadbefaa

theorem edges_cone_any {L : List H3} (G : Good L) (nv : ¬ Void L) (ne : ∃ e ∈ L, Edge L e) {h : H3} (nh : NZ h) : ∃ e g v, e ∈ L ∧ Edge L e ∧ Next L e g v ∧ 0 < cross e h ∧ 0 ≤ cross h g := by
  classical
  have mA : ∀ f, f ∈ L.filter (fun f => decide (Edge L f ∧ 0 < cross f h)) ↔ f ∈ L ∧ Edge L f ∧ 0 < cross f h := fun f => by simp
  have neA : L.filter (fun f => decide (Edge L f ∧ 0 < cross f h)) ≠ [] := by
    intro h0
    have all : ∀ f ∈ L, Edge L f → 0 ≤ cross h f := fun f hf ef => by
      apply Classical.byContradiction; intro hn
      have : f ∈ L.filter (fun f => decide (Edge L f ∧ 0 < cross f h)) := (mA f).2 ⟨hf, ef, by rw [cross_anti]; omega⟩
      rw [h0] at this; cases this
    have mB : ∀ f, f ∈ L.filter (fun f => decide (Edge L f ∧ 0 < cross h f)) ↔ f ∈ L ∧ Edge L f ∧ 0 < cross h f := fun f => by simp
    by_cases hB : L.filter (fun f => decide (Edge L f ∧ 0 < cross h f)) = []
    · have zero : ∀ f ∈ L, Edge L f → cross h f = 0 := fun f hf ef => by
        have := all f hf ef
        apply Classical.byContradiction; intro hn
        have : f ∈ L.filter (fun f => decide (Edge L f ∧ 0 < cross h f)) := (mB f).2 ⟨hf, ef, by omega⟩
        rw [hB] at this; cases this
      obtain ⟨e, he, ee⟩ := ne
      obtain ⟨g, v, N⟩ := next_exists G nv he ee
      have z1 := zero e he ee
      have z2 := zero g N.mg N.eg
      have id := cross_nrm h e g
      rw [z1, z2, Int.mul_zero, Int.mul_zero] at id
      have := Int.mul_pos (nrm_pos nh) N.turn
      omega
    · obtain ⟨g0, hg0, gm⟩ := last_angle (e := h) _ hB (fun f hf => ((mB f).1 hf).2.2)
      obtain ⟨m0, e0, p0⟩ := (mB g0).1 hg0
      obtain ⟨g1, v1, N1⟩ := next_exists G nv m0 e0
      have z1 : cross h g1 = 0 := by
        have a1 := all g1 N1.mg N1.eg
        apply Classical.byContradiction; intro hn
        have := gm g1 ((mB g1).2 ⟨N1.mg, N1.eg, by omega⟩)
        have := N1.turn
        omega
      obtain ⟨g2, v2, N2⟩ := next_exists G nv N1.mg N1.eg
      have a2 := all g2 N2.mg N2.eg
      have id := cross_id4 h g1 g2 g0
      rw [z1, Int.zero_mul] at id
      have q1 := Int.mul_pos p0 N2.turn
      have q2 : cross h g2 * cross g1 g0 ≤ 0 := Int.mul_nonpos_of_nonneg_of_nonpos a2 (by rw [cross_anti]; have := N1.turn; omega)
      omega
  obtain ⟨e, he, em⟩ := last_angle (e := negH h) _ neA (fun f hf => by
    have := ((mA f).1 hf).2.2
    have id : cross (negH h) f = cross f h := by unfold cross negH; grind
    rw [id]; exact this)
  obtain ⟨m0, e0, p0⟩ := (mA e).1 he
  obtain ⟨g, v, N⟩ := next_exists G nv m0 e0
  refine ⟨e, g, v, m0, e0, N, p0, ?_⟩
  apply Classical.byContradiction; intro hn
  have := em g ((mA g).2 ⟨N.mg, N.eg, by rw [cross_anti]; omega⟩)
  have := N.turn
  omega
/-- A corner has the greatest value of a direction. -/
theorem value_max {L : List H3} (G : Good L) (nv : ¬ Void L) (ne : ∃ e ∈ L, Edge L e) {h : H3} (nh : NZ h) : ∃ e g v, e ∈ L ∧ Edge L e ∧ Next L e g v ∧ ∀ x, Inside L x → val h x ≤ val h v := by
  obtain ⟨e, g, v, he, ee, N, p, q⟩ := edges_cone_any G nv ne nh
  refine ⟨e, g, v, he, ee, N, fun x hx => ?_⟩
  have i1 := hx e he
  have i2 := hx g N.mg
  have o1 := N.oe
  have o2 := N.og
  have cq : (0 : Rat) < (cross e g : Rat) := by exact_mod_cast N.turn
  have pq : (0 : Rat) ≤ (cross e h : Rat) := by exact_mod_cast Int.le_of_lt p
  have qq : (0 : Rat) ≤ (cross h g : Rat) := by exact_mod_cast q
  have id : ∀ y : Pt, (cross e g : Rat) * val h y = (cross h g : Rat) * val e y + (cross e h : Rat) * val g y := fun y => by
    rw [crossQ, crossQ, crossQ]; unfold val; grind
  have d1 := id x
  have d2 := id v
  unfold In On at *
  have m1 := Rat.mul_le_mul_of_nonneg_left i1 qq
  have m2 := Rat.mul_le_mul_of_nonneg_left i2 pq
  rw [o1, o2] at d2
  apply Classical.byContradiction; intro hn
  have m4 := Rat.mul_pos cq (show (0 : Rat) < val h x - val h v by grind)
  grind
/-- The same among the corners of a region as they are reckoned. -/
theorem Reg.value_max {hs L : List H3} (R : Reg hs L) (ok : ∀ g ∈ hs, HOk g) (hne : hs ≠ []) {h : H3} (nh : NZ h) : ∃ s ∈ cornersL hs, 0 < s.c ∧ ∀ x, Inside L x → val h x ≤ val h (ptOf (s.a, s.b, s.c)) := by
  have mem : ∀ x, x ∈ hs ↔ x ∈ L ∧ Edge L x := fun x => by rw [← R.edges]; exact pick_mem R.good x
  obtain ⟨e0, he0⟩ := List.exists_mem_of_ne_nil hs hne
  have ne : ∃ e ∈ L, Edge L e := ⟨e0, (mem e0).1 he0⟩
  obtain ⟨e, g, v, he, ee, N, hmax⟩ := Go.Proofs.Ytabmfaamadbefaa.value_max R.good R.full ne nh
  obtain ⟨k, hk, rfl⟩ := List.mem_iff_getElem.1 ((mem e).2 ⟨he, ee⟩)
  obtain ⟨i, hi, rfl⟩ := List.mem_iff_getElem.1 ((mem g).2 ⟨N.mg, N.eg⟩)
  have hs0 : Sorted hs := by rw [← R.edges]; exact pick_sorted R.good
  have ei := next_index hs0 R.nz hk hi N.turn fun f hf c1 c2 => next_none R.good N he ((mem f).1 hf).1 c1 c2 ((mem f).1 hf).2
  subst ei
  obtain ⟨hj, w, a, b, c, w0, ec, eh, c0, _⟩ := R.corner_ok ok hk
  have n0 : cross hs[k] hs[(k + 1) % hs.length] ≠ 0 := by have := N.turn; omega
  have nk := R.nz _ (List.getElem_mem hk)
  obtain ⟨p1, p2⟩ := cross_on n0
  have ev : ptOf (crossI hs[k] hs[(k + 1) % hs.length]) = v := pt_eq nk (by have o1 := N.oe; unfold On at p1 o1; rw [p1, o1]) (by rw [p2]; exact ((crossT_on nk n0 N.oe).1 N.og).symm)
  have es : ptOf (a, b, c) = v := by
    rw [← ev, ec]
    have wq : (w : Rat) ≠ 0 := by
      have : (0 : Rat) < (w : Rat) := by exact_mod_cast w0
      grind
    have cq : (c : Rat) ≠ 0 := by
      have : (0 : Rat) < (c : Rat) := by exact_mod_cast c0
      grind
    unfold ptOf
    push_cast
    congr 1 <;> grind
  refine ⟨⟨a, b, c⟩, ?_, c0, fun x hx => by rw [es]; exact hmax x hx⟩
  rw [← eh]
  unfold cornersL
  exact List.mem_map.2 ⟨k, List.mem_range.2 hk, rfl⟩
theorem farN_max {l : List (Int × Int)} (h : ∀ x ∈ l, FrOk x) : ∀ k, k ≤ l.length → ∀ x ∈ l.take k, cmpF x.1 x.2 (farN (l.take k)).1 (farN (l.take k)).2 ≤ 0 := by
  intro k
  induction k with
  | zero => intro _ x hx; simp at hx
  | succ k ih =>
    intro hk x hx
    have hlt : k < l.length := by omega
    have ht : ∀ x ∈ l.take k, FrOk x := fun x hx => h x (List.mem_of_mem_take hx)
    rw [List.take_succ_eq_append_getElem hlt] at hx ⊢
    have hs := (farN_snoc (x := l[k]) ht).1
    rw [hs]
    have pos : ∀ y, FrOk y → 0 < y.2 := fun y hy => by have := hy.2.1; omega
    have px := pos _ (h _ (List.getElem_mem hlt))
    rcases farN_ok ht with ⟨h0, e0, _⟩ | ⟨f, _, _, _⟩
    · have : farGo (l.take k) l[k] = true := by unfold farGo; rw [e0]; simp
      rw [if_pos this]
      rw [h0] at hx
      simp at hx
      subst hx
      simp [cmpF]
    · have pn := pos _ f
      by_cases hg : farGo (l.take k) l[k] = true
      · rw [if_pos hg]
        have hgt : 0 < cmpF l[k].1 l[k].2 (farN (l.take k)).1 (farN (l.take k)).2 := by
          unfold farGo at hg
          simp only [Bool.or_eq_true, decide_eq_true_eq] at hg
          omega
        rcases List.mem_append.1 hx with hx | hx
        · have h1 := ih (by omega) x hx
          have qx := pos _ (ht x hx)
          have l1 := (cmpF_pos (m := l[k]) (n := farN (l.take k)) px pn).1 hgt
          apply Classical.byContradiction; intro hn
          have l2 := (cmpF_pos (m := x) (n := l[k]) qx px).1 (by omega)
          have l3 : ¬ 0 < cmpF x.1 x.2 (farN (l.take k)).1 (farN (l.take k)).2 := by omega
          exact l3 ((cmpF_pos (m := x) (n := farN (l.take k)) qx pn).2 (by grind))
        · rw [List.mem_singleton.1 hx]; simp [cmpF]
      · rw [if_neg hg]
        rcases List.mem_append.1 hx with hx | hx
        · exact ih (by omega) x hx
        · rw [List.mem_singleton.1 hx]
          unfold farGo at hg
          simp only [Bool.or_eq_true, decide_eq_true_eq, not_or] at hg
          omega
/-- No point of a region has more than its support. -/
theorem sup_ge {ws : List H3} {a b p q : Int} (kw : regionOk ws = true) (hw : ws ≠ []) (ha : -50000 ≤ a ∧ a ≤ 50000) (hb : -50000 ≤ b ∧ b ≤ 50000) (hz : a ≠ 0 ∨ b ≠ 0) (h : supN a b ws = (p, q)) {x : Pt} (hx : Inside (sorted4 ws) x) (c : Int) (hc : val ⟨a, b, c⟩ x = (c : Rat)) : c * q ≤ p := by
  obtain ⟨G, hm, _⟩ := regionOk_parts kw hw
  obtain ⟨s, hs, c0, hmax⟩ := (reg_of G hm hw).value_max G hw (h := ⟨a, b, c⟩) hz
  have hv := hmax x hx
  have fo := valsL_ok ha hb kw
  have hin : valS a b s ∈ valsL a b ws := List.mem_map.2 ⟨s, hs, rfl⟩
  have hfm := farN_max fo _ (Nat.le_refl _) (valS a b s) (by rw [List.take_length]; exact hin)
  rw [List.take_length] at hfm
  have f1 := (sup_parts ha hb kw hw).1
  have f2 := fo _ hin
  obtain ⟨g, g0, e1, e2, q0, _⟩ := ratOf_fr f1
  have h' := h
  unfold supN at h'
  rw [h'] at e1 e2 q0
  simp only at e1 e2 q0
  have gq : (0 : Int) < (g : Int) := by omega
  have pos2 : 0 < (farN (valsL a b ws)).2 := by have := f1.2.1; omega
  have hle : (valS a b s).1 * (farN (valsL a b ws)).2 ≤ (farN (valsL a b ws)).1 * (valS a b s).2 := by
    unfold cmpF at hfm
    split at hfm
    · omega
    · split at hfm
      · omega
      · omega
  have hval : (c : Rat) ≤ val ⟨a, b, c⟩ (ptOf (s.a, s.b, s.c)) := by rw [← hc]; exact hv
  have hint : c * s.c ≤ a * s.a + b * s.b := by
    have cq : (0 : Rat) < (s.c : Rat) := by exact_mod_cast c0
    have e : val ⟨a, b, c⟩ (ptOf (s.a, s.b, s.c)) * (s.c : Rat) = (a : Rat) * s.a + (b : Rat) * s.b := by
      unfold val ptOf
      simp only
      grind
    have : (c : Rat) * s.c ≤ (a : Rat) * s.a + (b : Rat) * s.b := by
      rw [← e]
      exact Rat.mul_le_mul_of_nonneg_right hval (by grind)
    exact_mod_cast this
  have v1 : (valS a b s).1 = a * s.a + b * s.b := rfl
  have v2 : (valS a b s).2 = s.c := rfl
  rw [v1, v2, e1, e2] at hle
  -- c * s.c * (q g) ≤ (a s.a + b s.b) (q g) ≤ p g s.c
  have m1 : c * s.c * (q * g) ≤ (a * s.a + b * s.b) * (q * g) := Int.mul_le_mul_of_nonneg_right hint (Int.le_of_lt (Int.mul_pos q0 gq))
  have m2 : c * s.c * (q * g) ≤ p * g * s.c := Int.le_trans m1 hle
  have e3 : c * s.c * (q * g) = c * q * (s.c * g) := by grind
  have e4 : p * g * s.c = p * (s.c * g) := by grind
  rw [e3, e4] at m2
  exact Int.le_of_mul_le_mul_right m2 (Int.mul_pos c0 gq)
/-- An edge of a met region: the first region's support in its direction is at least its bound. -/
theorem meet_sup {ps qs : List H3} {h : H3} {p q : Int} (kp : regionOk ps = true) (hp : ps ≠ []) (okq : ∀ g ∈ qs, HOk g) (hh : h ∈ makeR (ps ++ qs)) (hs : supN h.a h.b ps = (p, q)) : h.c * q ≤ p := by
  obtain ⟨G, hm, _⟩ := regionOk_parts kp hp
  have okA : ∀ g ∈ ps ++ qs, HOk g := fun g hg => (List.mem_append.1 hg).elim (G g) (okq g)
  have GL := good_sorted okA
  have hne : makeE (sorted4 (ps ++ qs)) ≠ [] := fun e => by
    have : h ∈ makeE (sorted4 (ps ++ qs)) := hh
    rw [e] at this; cases this
  have hpk : h ∈ pickE (sorted4 (ps ++ qs)) (sorted4 (ps ++ qs)).length := by rw [← makeE_some hne]; exact hh
  obtain ⟨hm2, ed⟩ := (pick_mem GL h).1 hpk
  obtain ⟨x, _, ox, _, _, ix, _⟩ := ed
  have kh := GL.ok h hm2
  have ixp : Inside (sorted4 ps) x := (inside_sorted G).2 (fun g hg => (inside_sorted okA).1 ix g (by
    rcases List.mem_append.1 hg with hg | hg
    · exact List.mem_append.2 (.inl (List.mem_append.2 (.inl hg)))
    · exact List.mem_append.2 (.inr hg)))
  exact sup_ge kp hp kh.ba kh.bb kh.nz hs ixp h.c ox
end Go.Proofs.Ytabmfaamadbefaa
