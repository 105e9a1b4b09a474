/- Plain: what FnGrown and FnEroded say of grown and eroded areas. No program. -/
import Derived.Test.YtabmfaamadbefaaZe
import Derived.Test.YtabmfaamadbefaaEr
import Derived.Test.YtabmfaamadbefaaGp
import Derived.Test.YtabmfaamadbefaaHsp
set_option linter.unusedSimpArgs false
set_option linter.unusedVariables false
set_option linter.unusedSectionVars false
namespace Go.Proofs.Ytabmfaamadbefaa
open Go.RowKit

structure GrowSmall (bx bY lo hi : Int) : Prop where
  b1 : -3 ≤ bx ∧ bx ≤ 3
  b2 : -3 ≤ bY ∧ bY ≤ 3
  kl : -7 ≤ lo ∧ lo ≤ 0
  kh : lo ≤ hi ∧ hi ≤ 11
theorem growR_area {p : List H3} {bx bY lo hi : Int} (A : AreaP p) (B : GrowSmall bx bY lo hi) : growR p bx bY lo hi = growM p bx bY lo hi := by
  obtain ⟨b1, b2, h1, h2⟩ := B
  unfold growR
  rw [if_pos]
  have := area_len A
  simp only [growOk, rangeB, inR, area_ok A, Bool.and_eq_true, decide_eq_true_eq, Bool.and_true]
  omega
theorem grown_fail {p g : List H3} {bx bY lo hi : Int} (A : AreaP p) (B : GrowSmall bx bY lo hi) (h : growR p bx bY lo hi = (g, false)) : ¬ (bx = 0 ∧ bY = 0) := by
  intro h0
  rw [growR_area A B] at h
  unfold growM at h
  rw [if_pos (.inr h0)] at h
  injection h with _ h; cases h
theorem step_bd {u lo hi b : Int} (h1 : -7 ≤ u ∧ u ≤ 11) (hb : -3 ≤ b ∧ b ≤ 3) : -33 ≤ u * b ∧ u * b ≤ 33 := by
  have := mul_bd (A := 11) (B := 3) (x := u) (y := b) (by omega) hb
  omega
theorem step_cast {u : Rat} {b : Int} (h1 : -7 ≤ u) (h2 : u ≤ 11) (hb : -3 ≤ b ∧ b ≤ 3) : -33 ≤ u * (b : Rat) ∧ u * (b : Rat) ≤ 33 := by
  have c1 : (-3 : Rat) ≤ (b : Rat) := by have := le_cast hb.1; push_cast at this; exact this
  have c2 : (b : Rat) ≤ 3 := by have := le_cast hb.2; push_cast at this; exact this
  have m1 := lin_bd (a := u) (A := 11) (d := (b : Rat)) (r := 3) (by grind) (by grind) (by grind) (by grind)
  have m2 := lin_bd (a := -u) (A := 11) (d := (b : Rat)) (r := 3) (by grind) (by grind) (by grind) (by grind)
  grind
/-- The points from which a step of the range leads into an area leave room. -/
theorem grown_fat {p : List H3} {bx bY lo hi : Int} (A : AreaP p) (B : GrowSmall bx bY lo hi) : FatP (fun x => Inside frameH x ∧ ∃ u : Rat, (lo : Rat) ≤ u ∧ u ≤ (hi : Rat) ∧ setR p (movP x u bx bY)) := by
  obtain ⟨z, r, r0, hr⟩ := set_fat (area_ok A) (area_fat A)
  have l1 : (-7 : Rat) ≤ (lo : Rat) := by have := le_cast B.kl.1; push_cast at this; exact this
  have l2 : (lo : Rat) ≤ 11 := by have := le_cast (show lo ≤ 11 by have := B.kh; omega); push_cast at this; exact this
  obtain ⟨s1, s2⟩ := step_cast l1 l2 B.b1
  obtain ⟨s3, s4⟩ := step_cast l1 l2 B.b2
  refine ⟨movP z (-lo) bx bY, r, r0, fun y hy => ?_⟩
  have hm : setR p (movP y lo bx bY) := hr _ (by unfold NbP movP at *; simp only at *; grind)
  refine ⟨?_, lo, by grind, le_cast B.kh.1, hm⟩
  obtain ⟨⟨a1, a2⟩, a3, a4⟩ := area_box A hm
  unfold movP at a1 a2 a3 a4
  simp only at a1 a2 a3 a4
  exact frame_pt (by grind)
theorem grown_loop {p g : List H3} {bx bY lo hi u x y : Int} (A : AreaP p) (B : GrowSmall bx bY lo hi) (h : growR p bx bY lo hi = (g, true)) (h1 : lo ≤ u) (h2 : u ≤ hi) (hx : -40 ≤ x ∧ x ≤ 40) (hy : -40 ≤ y ∧ y ≤ 40) (hs : hasSpotR p (x + u * bx) (y + u * bY) 1 = true) : hasSpotR g x y 1 = true := by
  have kp := area_ok A
  have ⟨b1, b2, _, hl⟩ := B
  rw [growR_area A B] at h
  have s1 := step_bd (u := u) (lo := 0) (hi := 0) (by have := B.kl; omega) b1
  have s2 := step_bd (u := u) (lo := 0) (hi := 0) (by have := B.kl; omega) b2
  rw [has_whole kp (by omega) (by omega)] at hs
  rw [has_whole (growM_ok kp h) (by omega) (by omega), set_grow kp (by omega) (by omega) hl.1 h]
  refine ⟨grown_fat A B, ?_, u, le_cast h1, le_cast h2, ?_⟩
  · rw [ptOf_whole]
    have c1 := le_cast hx.1; have c2 := le_cast hx.2; have c3 := le_cast hy.1; have c4 := le_cast hy.2
    push_cast at c1 c2 c3 c4
    exact frame_pt (by simp only; grind)
  · have e : movP (ptOf (x, y, 1)) (u : Rat) bx bY = ptOf (x + u * bx, y + u * bY, 1) := by
      rw [ptOf_whole, ptOf_whole]
      unfold movP
      push_cast
      rfl
    rw [e]; exact hs
theorem grown_reg {p g : List H3} {bx bY lo hi : Int} (A : AreaP p) (B : GrowSmall bx bY lo hi) (h : growR p bx bY lo hi = (g, true)) : regionOk g = true := by
  rw [growR_area A B] at h
  exact growM_ok (area_ok A) h
theorem movP_zero (x : Pt) (bx bY : Int) : movP x 0 bx bY = x := by
  cases x with | mk a b => ?_
  unfold movP
  simp only
  congr 1 <;> grind
theorem grown_within {p g : List H3} {bx bY lo hi : Int} (A : AreaP p) (B : GrowSmall bx bY lo hi) (h : growR p bx bY lo hi = (g, true)) (h1 : lo ≤ 0) (h2 : 0 ≤ hi) : isWithinR p g = true := by
  have kp := area_ok A
  have ⟨b1, b2, _, hl⟩ := B
  rw [growR_area A B] at h
  refine within_iff.2 ⟨kp, growM_ok kp h, fun x hx => (set_grow kp (by omega) (by omega) hl.1 h).2 ⟨grown_fat A B, set_frame kp hx, 0, ?_, ?_, ?_⟩⟩
  · exact le_cast h1
  · exact le_cast h2
  · rw [movP_zero]; exact hx
theorem ratio_whole {n : Int} (hn : -1000000 ≤ n ∧ n ≤ 1000000) : ratOf n 1 = (n, 1) := by
  refine ratOf_same ?_
  have e : gcdS n 1 = 1 := by
    unfold gcdS
    rw [if_neg (by omega)]
    simp
  simp [ratioOk, inR, e]
  omega
/-- The support of a box with whole corners is whole. -/
theorem box_sup {x0 y0 x1 y1 a b M : Int} (B : BoxBd x0 y0 x1 y1) (ha : -50 ≤ a ∧ a ≤ 50) (hb : -50 ≤ b ∧ b ≤ 50) (hM : 0 ≤ M ∧ M ≤ 1000) (hx : -M ≤ x0 ∧ x1 ≤ M) (hy : -M ≤ y0 ∧ y1 ≤ M) : ∃ n, supN a b (boxB x0 y0 x1 y1) = (n, 1) ∧ -(50 * M + 50 * M) ≤ n ∧ n ≤ 50 * M + 50 * M := by
  have fo := valsL_ok (a := a) (b := b) (by omega) (by omega) (box_reg B)
  rcases farN_ok fo with ⟨h0, _⟩ | ⟨_, _, _, hm⟩
  · have := valsL_length a b (boxB x0 y0 x1 y1)
    rw [h0] at this
    simp [boxB] at this
  · have bl := B.lx
    have bl' := B.ly
    have vb : ∀ X Y : Int, (-M ≤ X ∧ X ≤ M) → (-M ≤ Y ∧ Y ≤ M) → -(50 * M + 50 * M) ≤ a * X + b * Y ∧ a * X + b * Y ≤ 50 * M + 50 * M := fun X Y hX hY => by
      have m1 := mul_bd (A := 50) (B := M) ha hX
      have m2 := mul_bd (A := 50) (B := M) hb hY
      omega
    have hf : ∃ n, farN (valsL a b (boxB x0 y0 x1 y1)) = (n, 1) ∧ -(50 * M + 50 * M) ≤ n ∧ n ≤ 50 * M + 50 * M := by
      obtain ⟨s, hs, ev⟩ := List.mem_map.1 hm
      rw [box_corners B] at hs
      rw [← ev]
      simp only [List.mem_cons, List.not_mem_nil, or_false] at hs
      rcases hs with rfl | rfl | rfl | rfl <;> exact ⟨_, rfl, vb _ _ (by simp only; omega) (by simp only; omega)⟩
    obtain ⟨n, hn, h1, h2⟩ := hf
    refine ⟨n, ?_, h1, h2⟩
    unfold supN
    rw [hn]
    exact ratio_whole (by omega)
theorem er_small {ws : List H3} {g : H3} {n : Int} (hs : supN g.a g.b ws = (n, 1)) (hg : HOk g) (hc : -1000000 ≤ g.c ∧ g.c ≤ 1000000) (hn : -1000000 ≤ n ∧ n ≤ 1000000) : (erF ws g).2 = true := by
  unfold erF
  rw [hs]
  simp only [Int.mul_one]
  have := hg.ba; have := hg.bb
  exact halfOf_small (by omega) (by omega) (by omega) hg.nz
theorem eroded_fine {p : List H3} {a b c d : Int} (A : AreaP p) (S : SmallBd a b c d) : ∃ e, erodeR p (boxB (-a) (-b) c d) = (e, true) ∧ regionOk e = true ∧ movedF (erF (boxB (-a) (-b) c d)) p = (e, true) := by
  have B := S.box
  have kw := box_reg B
  have hw : boxB (-a) (-b) c d ≠ [] := by simp [boxB]
  have kp := area_ok A
  obtain ⟨ha, hb, hc, hd⟩ := S
  have hF : ∀ g ∈ p, (erF (boxB (-a) (-b) c d) g).2 = true := fun g hg => by
    obtain ⟨k, g1, g2, g3⟩ := area_small A g hg
    obtain ⟨n, hn, n1, n2⟩ := box_sup (M := 4) B (a := g.a) (b := g.b) (by omega) (by omega) (by omega) (by omega) (by omega)
    exact er_small hn k (by omega) (by omega)
  have hm := (movedF_small hF (fun g hg => erF_ok (hF g hg)) (by have := area_len A; omega)).1
  refine ⟨_, ?_, ?_, hm⟩
  · unfold erodeR
    rw [if_pos ⟨hw, kp, kw⟩]
    exact hm
  · exact movedF_ok (fun g _ hg => erF_ok hg) hm
theorem addP_zero (x : Pt) : addP x ⟨0, 0⟩ = x := by
  cases x with | mk a b => ?_
  unfold addP
  simp only
  congr 1 <;> grind
theorem eroded_within {p e : List H3} {a b c d : Int} (A : AreaP p) (S : SmallBd a b c d) (h : movedF (erF (boxB (-a) (-b) c d)) p = (e, true)) (ke : regionOk e = true) : isWithinR e p = true := by
  have B := S.box
  refine within_iff.2 ⟨ke, area_ok A, fun x hx => ?_⟩
  have := ((set_erode (box_reg B) (by simp [boxB]) (area_ok A) h).1 hx).2.2 ⟨0, 0⟩ (box_set.2 ?_)
  · rw [addP_zero] at this; exact this
  · obtain ⟨ha, hb, hc, hd⟩ := S
    have c1 := le_cast ha.1; have c2 := le_cast hb.1; have c3 := le_cast hc.1; have c4 := le_cast hd.1
    push_cast at c1 c2 c3 c4 ⊢
    grind
/-- A half plane holds after every step of a region exactly if it holds after its corners. -/
theorem corners_in {ws ps : List H3} {x : Pt} (kw : regionOk ws = true) (hw : ws ≠ []) (okp : ∀ g ∈ ps, HOk g) : (∀ t, setR ws t → setR ps (addP x t)) ↔ ∀ s ∈ cornersL ws, setR ps (addP x (ptOf (s.a, s.b, s.c))) := by
  constructor
  · intro h s hs
    exact h _ (corner_set kw hs).2.2
  · intro h t ht
    have hne : ps ≠ [] := by
      obtain ⟨s, hs, _⟩ := corner_max kw hw (h := ⟨1, 0, 0⟩) (Or.inl (by decide))
      exact (h s hs).1
    refine ⟨hne, fun g hg => ?_⟩
    obtain ⟨s, hs, _, hmax⟩ := corner_max kw hw (okp g hg).nz
    have h1 := (h s hs).2 g hg
    have h2 := hmax t ht
    unfold In at h1 ⊢
    rw [val_addP] at h1 ⊢
    grind
theorem eroded_has {p e : List H3} {a b c d x y : Int} (A : AreaP p) (S : SmallBd a b c d) (h : movedF (erF (boxB (-a) (-b) c d)) p = (e, true)) (ke : regionOk e = true) (hx : -40 ≤ x ∧ x ≤ 40) (hy : -40 ≤ y ∧ y ≤ 40) (hne : e ≠ []) : hasSpotR e x y 1 = (cornersL (boxB (-a) (-b) c d)).all fun t => hasSpotR p (x + t.a) (y + t.b) 1 := by
  have B := S.box
  have kp := area_ok A
  have kw := box_reg B
  have hw : boxB (-a) (-b) c d ≠ [] := by simp [boxB]
  have hset := fun x => set_erode (x := x) kw hw kp h
  have f := ((hset _).1 (set_fat ke hne).some.choose_spec).1
  rw [Bool.eq_iff_iff, has_whole ke (by omega) (by omega), hset, List.all_eq_true]
  obtain ⟨ha, hb, hc, hd⟩ := S
  have hk : ∀ t ∈ cornersL (boxB (-a) (-b) c d), hasSpotR p (x + t.a) (y + t.b) 1 = true ↔ setR p (addP (ptOf (x, y, 1)) (ptOf (t.a, t.b, t.c))) := fun t ht => by
    rw [box_corners B] at ht
    have e : ∀ X Y : Int, addP (ptOf (x, y, 1)) (ptOf (X, Y, 1)) = ptOf (x + X, y + Y, 1) := fun X Y => by
      rw [ptOf_whole, ptOf_whole, ptOf_whole]
      unfold addP
      push_cast
      rfl
    simp only [List.mem_cons, List.not_mem_nil, or_false] at ht
    rcases ht with rfl | rfl | rfl | rfl <;> (rw [e]; exact has_whole kp (by simp only; omega) (by simp only; omega))
  constructor
  · rintro ⟨_, _, h2⟩ t ht
    exact (hk t ht).2 ((corners_in kw hw (region_good kp).1).1 h2 t ht)
  · intro h2
    refine ⟨f, ?_, (corners_in kw hw (region_good kp).1).2 fun t ht => (hk t ht).1 (h2 t ht)⟩
    rw [ptOf_whole]
    have c1 := le_cast hx.1; have c2 := le_cast hx.2; have c3 := le_cast hy.1; have c4 := le_cast hy.2
    push_cast at c1 c2 c3 c4
    exact frame_pt (by simp only; grind)
theorem eroded_void {x y d : Int} : hasSpotR [] x y d = false := by
  unfold hasSpotR hasL; simp
end Go.Proofs.Ytabmfaamadbefaa
