/- Plain: the areas that the reference draws, and boxes: their half planes, their points, their corners. No program. -/
import Derived.Test.YtabmfaamadbefaaGreatZc
import Derived.Test.YtabmfaamadbefaaGreatHsp
set_option linter.unusedSimpArgs false
set_option linter.unusedVariables false
set_option linter.unusedSectionVars false
namespace Go.Proofs.YtabmfaamadbefaaGreat
open Go.RowKit
/-- Half planes with small coefficients are valid, reduced. -/
theorem halfOf_small {a b c : Int} (ha : -50000 ≤ a ∧ a ≤ 50000) (hb : -50000 ≤ b ∧ b ≤ 50000) (hc : -100000000 ≤ c ∧ c ≤ 100000000) (hz : a ≠ 0 ∨ b ≠ 0) : (halfOf a b c).2 = true := by
  have h0 : ¬ (a = 0 ∧ b = 0 ∧ c = 0) := by omega
  obtain ⟨g, x, y, z, e, g0, ea, eb, ec, qa, qb, qc⟩ := gcd3_parts h0
  have nb : ¬ halfBad a b c := by unfold halfBad; omega
  have gq : gcdL [x, y, z] = 1 := by
    have : gcdL [a, b, c] = gcdL [x, y, z] * g := by
      rw [ea, eb, ec]
      simp only [gcdL, List.foldl_cons, List.foldl_nil, Int.natAbs_mul, Int.natAbs_natCast]
      rw [Nat.gcd_zero_left, Nat.gcd_zero_left, Nat.gcd_mul_right, Nat.gcd_mul_right]
    rw [e] at this
    have h1 : g * 1 = g * gcdL [x, y, z] := by rw [Nat.mul_one, Nat.mul_comm]; exact this
    exact (Nat.eq_of_mul_eq_mul_left g0 h1).symm
  have bx := scaled_le (n := x) (k := g) (A := 50000) g0 (by rw [← ea]; exact ha) (by omega)
  have bb := scaled_le (n := y) (k := g) (A := 50000) g0 (by rw [← eb]; exact hb) (by omega)
  have bz := scaled_le (n := z) (k := g) (A := 100000000) g0 (by rw [← ec]; exact hc) (by omega)
  have nz : ¬ (x = 0 ∧ y = 0) := by
    rintro ⟨rfl, rfl⟩
    simp at ea eb
    omega
  unfold halfOf
  rw [if_neg nb, e, qa, qb, qc, if_pos]
  simp only [halfOk, inR, gq, Bool.and_eq_true, decide_eq_true_eq, Bool.not_eq_true', Bool.and_eq_false_iff, decide_eq_false_iff_not]
  refine ⟨⟨⟨⟨⟨by omega, by omega⟩, by omega, by omega⟩, by omega, by omega⟩, by omega⟩, trivial⟩
theorem half_bd {a b c A B C : Int} {g : H3} (h : halfOf a b c = (g, true)) (ha : -A ≤ a ∧ a ≤ A) (hb : -B ≤ b ∧ b ≤ B) (hc : -C ≤ c ∧ c ≤ C) : (-A ≤ g.a ∧ g.a ≤ A) ∧ (-B ≤ g.b ∧ g.b ≤ B) ∧ (-C ≤ g.c ∧ g.c ≤ C) := by
  obtain ⟨k, k0, ea, eb, ec⟩ := half_scale h
  exact ⟨scaled_le k0 (by rw [← ea]; exact ha) (by omega), scaled_le k0 (by rw [← eb]; exact hb) (by omega), scaled_le k0 (by rw [← ec]; exact hc) (by omega)⟩
theorem nz_all {L : List H3} (ok : ∀ g ∈ L, HOk g) : AllNZ (L ++ frameH) := fun y hy => (ok_framed ok y hy).nz
theorem made_mem {L : List H3} (ok : ∀ g ∈ L, HOk g) {g : H3} (h : g ∈ makeR L) : g ∈ L ++ frameH := by
  have hne : makeR L ≠ [] := List.ne_nil_of_mem h
  exact sortH_mem (nz_all ok) ((made_edges ok hne).1 g |>.1 h).1
theorem made_len {L : List H3} (ok : ∀ g ∈ L, HOk g) : (makeR L).length ≤ L.length + 4 := by
  have h1 := sortH_length (L ++ frameH)
  have h2 := pickE_len (sorted4 L) (sorted4 L).length
  have h3 : (sorted4 L).length ≤ L.length + 4 := by
    have : (L ++ frameH).length = L.length + 4 := by simp [frameH]
    have : (sorted4 L).length ≤ (L ++ frameH).length := h1
    omega
  unfold makeR makeE
  split
  · simp
  · omega
theorem meetR_small {L : List H3} (ok : ∀ g ∈ L, HOk g) (hl : L.length ≤ 36) : meetR L = (makeR L, true) := by
  rw [meetR_makeR ok, if_neg (by have := made_len ok; omega)]
theorem movedF_small {F : H3 → H3 × Bool} {ps : List H3} (hF : ∀ g ∈ ps, (F g).2 = true) (hok : ∀ g ∈ ps, HOk (F g).1) (hl : ps.length ≤ 36) : movedF F ps = ((movedF F ps).1, true) ∧ (ps ≠ [] → (movedF F ps).1 = makeR (ps.map fun g => (F g).1)) := by
  have okm : ∀ g ∈ ps.map (fun g => (F g).1), HOk g := fun g hg => by
    obtain ⟨g0, hg0, rfl⟩ := List.mem_map.1 hg
    exact hok g0 hg0
  unfold movedF
  split
  · exact ⟨rfl, fun h => absurd (by assumption) h⟩
  · rw [if_pos (List.all_eq_true.2 hF), meetR_small okm (by simpa using hl)]
    exact ⟨rfl, fun _ => rfl⟩
theorem area_okL {px py pd ph : Int} {L : List H3} (D : DrawL px py pd ph L) : ∀ g ∈ L, HOk g := fun g hg => (D.ok g hg).1
theorem area_ok {p : List H3} (h : AreaP p) : regionOk p = true := by
  obtain ⟨px, py, pd, ph, L, rfl, hl, D, B⟩ := h
  exact made_ok (area_okL D) (by omega)
theorem area_len {p : List H3} (h : AreaP p) : p.length ≤ 10 := by
  obtain ⟨px, py, pd, ph, L, rfl, hl, D, B⟩ := h
  have := made_len (area_okL D)
  omega
/-- An area's half planes have small coefficients. -/
theorem area_small {p : List H3} (h : AreaP p) : ∀ g ∈ p, HOk g ∧ (-3 ≤ g.a ∧ g.a ≤ 3) ∧ (-3 ≤ g.b ∧ g.b ≤ 3) ∧ (-1000 ≤ g.c ∧ g.c ≤ 1000) := by
  obtain ⟨px, py, pd, ph, L, rfl, hl, D, B⟩ := h
  intro g hg
  rcases List.mem_append.1 (made_mem (area_okL D) hg) with q | q
  · obtain ⟨h1, h2, h3, h4, _⟩ := D.ok g q
    exact ⟨h1, h2, h3, by omega⟩
  · refine ⟨frameH_ok g q, ?_⟩
    simp only [frameH, List.mem_cons, List.not_mem_nil, or_false] at q
    rcases q with rfl | rfl | rfl | rfl <;> (simp only; omega)
theorem area_fat {p : List H3} (h : AreaP p) : p ≠ [] := by
  obtain ⟨px, py, pd, ph, L, rfl, hl, D, B⟩ := h
  refine made_inner (area_okL D) (x := ptOf (px + 1, py + 1, 1)) fun g hg => ?_
  have e : val g (ptOf (px + 1, py + 1, 1)) = ((g.a * (px + 1) + g.b * (py + 1) : Int) : Rat) := by
    unfold val ptOf; simp only; push_cast; grind
  rw [e]
  have : g.a * (px + 1) + g.b * (py + 1) < g.c := by
    rcases List.mem_append.1 hg with q | q
    · exact (D.ok g q).2.2.2.2
    · have := B.bx; have := B.bY
      simp only [frameH, List.mem_cons, List.not_mem_nil, or_false] at q
      rcases q with rfl | rfl | rfl | rfl <;> (simp only; omega)
  exact_mod_cast this
/-- An area holds a whole spot. -/
theorem area_spot {p : List H3} (h : AreaP p) : ∃ X Y : Int, (-39 ≤ X ∧ X ≤ 20) ∧ (-39 ≤ Y ∧ Y ≤ 20) ∧ hasL p ⟨X, Y, 1⟩ = true := by
  have hne := area_fat h
  obtain ⟨px, py, pd, ph, L, rfl, hl, D, B⟩ := h
  refine ⟨px + 1, py + 1, by have := B.bx; omega, by have := B.bY; omega, ?_⟩
  rw [has_made (area_okL D) hne (by simp)]
  intro g hg
  rcases List.mem_append.1 hg with q | q
  · have := (D.ok g q).2.2.2.2
    unfold sideI; simp only; omega
  · exact in_frame (s := ⟨px + 1, py + 1, 1⟩) (by have := B.bx; have := B.bY; simp only; omega) g q
/-- An area lies in a small part of the frame. -/
theorem area_box {p : List H3} (h : AreaP p) {x : Pt} (hx : setR p x) : (-40 ≤ x.x ∧ x.x ≤ 98) ∧ (-40 ≤ x.y ∧ x.y ≤ 98) := by
  obtain ⟨px, py, pd, ph, L, rfl, hl, D, B⟩ := h
  have hi := ((set_made (area_okL D)).1 hx).2
  have hb := fun g hg => hi g (List.mem_append_left _ (D.box g hg))
  have h1 := hb ⟨1, 0, px + pd⟩ (by simp [boxL])
  have h2 := hb ⟨0, 1, py + ph⟩ (by simp [boxL])
  have h3 := hb ⟨-1, 0, -px⟩ (by simp [boxL])
  have h4 := hb ⟨0, -1, -py⟩ (by simp [boxL])
  have b1 : ((px + pd : Int) : Rat) ≤ 98 := by exact_mod_cast (by have := B.bx; have := B.bd; omega : px + pd ≤ 98)
  have b2 : ((py + ph : Int) : Rat) ≤ 98 := by exact_mod_cast (by have := B.bY; have := B.bh; omega : py + ph ≤ 98)
  have b3 : ((-px : Int) : Rat) ≤ 40 := by exact_mod_cast (by have := B.bx; omega : -px ≤ 40)
  have b4 : ((-py : Int) : Rat) ≤ 40 := by exact_mod_cast (by have := B.bY; omega : -py ≤ 40)
  unfold In val at h1 h2 h3 h4
  simp only at h1 h2 h3 h4
  grind
theorem frame_pt {x : Pt} (h : (-1000 ≤ x.x ∧ x.x ≤ 1000) ∧ (-1000 ≤ x.y ∧ x.y ≤ 1000)) : Inside frameH x := by
  intro g hg
  simp only [frameH, List.mem_cons, List.not_mem_nil, or_false] at hg
  rcases hg with rfl | rfl | rfl | rfl <;> (unfold In val; simp only; push_cast; grind)
theorem frame_iff {x : Pt} : Inside frameH x ↔ (-1000 ≤ x.x ∧ x.x ≤ 1000) ∧ (-1000 ≤ x.y ∧ x.y ≤ 1000) := by
  refine ⟨fun h => ?_, frame_pt⟩
  have := framed_pt h
  grind
theorem wspot_ok {x y : Int} (hx : -1000 ≤ x ∧ x ≤ 1000) (hy : -1000 ≤ y ∧ y ≤ 1000) : spotOk x y 1 = true := by
  have e : gcdL [x, y, 1] = 1 := by simp [gcdL]
  simp only [spotOk, e, inR, Bool.and_eq_true, decide_eq_true_eq]
  and_intros <;> first | trivial | omega
theorem whole_of {x y : Int} (hx : -1000 ≤ x ∧ x ≤ 1000) (hy : -1000 ≤ y ∧ y ≤ 1000) : spotOf x y 1 = ((x, y, 1), true) := by
  have e : gcdL [x, y, 1] = 1 := by simp [gcdL]
  have k := wspot_ok hx hy
  unfold spotOf
  rw [if_neg (by omega), e]
  simp [k]
theorem has_whole {p : List H3} (k : regionOk p = true) {x y : Int} (hx : -1000 ≤ x ∧ x ≤ 1000) (hy : -1000 ≤ y ∧ y ≤ 1000) : hasSpotR p x y 1 = true ↔ setR p (ptOf (x, y, 1)) := by
  unfold hasSpotR
  rw [k, wspot_ok hx hy, Bool.true_and, Bool.true_and]
  exact has_set (s := ⟨x, y, 1⟩) (by simp)
theorem has_spot {p : List H3} (k : regionOk p = true) {x y d : Int} (h : spotOk x y d = true) : hasSpotR p x y d = true ↔ setR p (ptOf (x, y, d)) := by
  unfold hasSpotR
  rw [k, h, Bool.true_and, Bool.true_and]
  exact has_set (s := ⟨x, y, d⟩) (by have := okS_bd (s := ⟨x, y, d⟩) h; simp only at this ⊢; omega)
theorem has_reg {p : List H3} {x y d : Int} (h : hasSpotR p x y d = true) : regionOk p = true ∧ spotOk x y d = true ∧ setR p (ptOf (x, y, d)) := by
  have h' := h
  unfold hasSpotR at h
  simp only [Bool.and_eq_true] at h
  exact ⟨h.1.1, h.1.2, (has_spot h.1.1 h.1.2).1 h'⟩
theorem ptOf_whole (x y : Int) : ptOf (x, y, 1) = ⟨(x : Rat), (y : Rat)⟩ := by
  unfold ptOf; simp only; congr 1 <;> grind
end Go.Proofs.YtabmfaamadbefaaGreat