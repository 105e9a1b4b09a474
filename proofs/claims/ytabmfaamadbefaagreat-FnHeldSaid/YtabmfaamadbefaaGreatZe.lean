/- Plain: boxes: their lists of half planes, their points, their corners. No program. -/
import Derived.Test.YtabmfaamadbefaaGreatZd
set_option linter.unusedSimpArgs false
set_option linter.unusedVariables false
set_option linter.unusedSectionVars false
namespace Go.Proofs.YtabmfaamadbefaaGreat
open Go.RowKit
theorem le_cast {a b : Int} (h : a ≤ b) : (a : Rat) ≤ (b : Rat) := by exact_mod_cast h
theorem cast_le {a b : Int} (h : (a : Rat) ≤ (b : Rat)) : a ≤ b := by exact_mod_cast h
theorem q1000 : ((1000 : Int) : Rat) = 1000 := rfl
theorem q1000n : ((-1000 : Int) : Rat) = -1000 := rfl
def boxB (x0 y0 x1 y1 : Int) : List H3 := [⟨1, 0, x1⟩, ⟨0, 1, y1⟩, ⟨-1, 0, -x0⟩, ⟨0, -1, -y0⟩]
structure BoxBd (x0 y0 x1 y1 : Int) : Prop where
  lx : -1000 ≤ x0 ∧ x0 < x1 ∧ x1 ≤ 1000
  ly : -1000 ≤ y0 ∧ y0 < y1 ∧ y1 ≤ 1000
theorem boxB_ok {x0 y0 x1 y1 : Int} (B : BoxBd x0 y0 x1 y1) : ∀ g ∈ boxB x0 y0 x1 y1, HOk g := by
  have := B.lx; have := B.ly
  intro g hg
  simp only [boxB, List.mem_cons, List.not_mem_nil, or_false] at hg
  rcases hg with rfl | rfl | rfl | rfl
  · exact unit_ok (.inl ⟨rfl, rfl⟩) ⟨by omega, by omega⟩
  · exact unit_ok (.inr (.inr (.inl ⟨rfl, rfl⟩))) ⟨by omega, by omega⟩
  · exact unit_ok (.inr (.inl ⟨rfl, rfl⟩)) ⟨by omega, by omega⟩
  · exact unit_ok (.inr (.inr (.inr ⟨rfl, rfl⟩))) ⟨by omega, by omega⟩
theorem box_in {x0 y0 x1 y1 : Int} {p : Pt} : Inside (boxB x0 y0 x1 y1) p ↔ ((x0 : Rat) ≤ p.x ∧ p.x ≤ (x1 : Rat)) ∧ ((y0 : Rat) ≤ p.y ∧ p.y ≤ (y1 : Rat)) := by
  constructor
  · intro h
    have h1 := h ⟨1, 0, x1⟩ (by simp [boxB])
    have h2 := h ⟨0, 1, y1⟩ (by simp [boxB])
    have h3 := h ⟨-1, 0, -x0⟩ (by simp [boxB])
    have h4 := h ⟨0, -1, -y0⟩ (by simp [boxB])
    unfold In val at h1 h2 h3 h4
    simp only at h1 h2 h3 h4
    push_cast at h1 h2 h3 h4
    grind
  · intro h g hg
    simp only [boxB, List.mem_cons, List.not_mem_nil, or_false] at hg
    rcases hg with rfl | rfl | rfl | rfl <;> (unfold In val; simp only; push_cast; grind)
theorem box_framed {x0 y0 x1 y1 : Int} (B : BoxBd x0 y0 x1 y1) {p : Pt} : Inside (boxB x0 y0 x1 y1 ++ frameH) p ↔ ((x0 : Rat) ≤ p.x ∧ p.x ≤ (x1 : Rat)) ∧ ((y0 : Rat) ≤ p.y ∧ p.y ≤ (y1 : Rat)) := by
  rw [inside_app, box_in, frame_iff]
  refine ⟨fun h => h.1, fun h => ⟨h, ?_⟩⟩
  have a1 : (-1000 : Rat) ≤ (x0 : Rat) := q1000n ▸ le_cast B.lx.1
  have a2 : (x1 : Rat) ≤ 1000 := q1000 ▸ le_cast B.lx.2.2
  have a3 : (-1000 : Rat) ≤ (y0 : Rat) := q1000n ▸ le_cast B.ly.1
  have a4 : (y1 : Rat) ≤ 1000 := q1000 ▸ le_cast B.ly.2.2
  grind
theorem boxB_sorted (x0 y0 x1 y1 : Int) : Sorted (boxB x0 y0 x1 y1) := by
  unfold Sorted boxB
  simp [before, upB, cross]
theorem box_fat {x0 y0 x1 y1 : Int} (B : BoxBd x0 y0 x1 y1) : FatP (Inside (boxB x0 y0 x1 y1 ++ frameH)) := by
  have a1 : (x0 : Rat) + 1 ≤ (x1 : Rat) := by exact_mod_cast (by have := B.lx; omega : x0 + 1 ≤ x1)
  have a2 : (y0 : Rat) + 1 ≤ (y1 : Rat) := by exact_mod_cast (by have := B.ly; omega : y0 + 1 ≤ y1)
  refine ⟨⟨x0 + 1 / 2, y0 + 1 / 2⟩, 1 / 2, by grind, fun y hy => (box_framed B).2 ?_⟩
  unfold NbP at hy
  simp only at hy
  grind
/-- A box is its own list of edges. -/
theorem box_made {x0 y0 x1 y1 : Int} (B : BoxBd x0 y0 x1 y1) : makeR (boxB x0 y0 x1 y1) = boxB x0 y0 x1 y1 := by
  have ok := boxB_ok B
  have hne := (made_fat ok).2 (box_fat B)
  have G := good_sorted ok
  obtain ⟨mP, _, _⟩ := made_edges ok hne
  have eP : makeR (boxB x0 y0 x1 y1) = pickE (sorted4 (boxB x0 y0 x1 y1)) (sorted4 (boxB x0 y0 x1 y1)).length := makeE_some (L := sorted4 _) hne
  have f : FatP (Inside (sorted4 (boxB x0 y0 x1 y1))) := (box_fat B).mono fun x hx => (inside_sorted ok).2 hx
  have a1 : (x0 : Rat) + 1 ≤ (x1 : Rat) := by exact_mod_cast (by have := B.lx; omega : x0 + 1 ≤ x1)
  have a2 : (y0 : Rat) + 1 ≤ (y1 : Rat) := by exact_mod_cast (by have := B.ly; omega : y0 + 1 ≤ y1)
  have pin : ∀ p : Pt, ((x0 : Rat) ≤ p.x ∧ p.x ≤ (x1 : Rat)) ∧ ((y0 : Rat) ≤ p.y ∧ p.y ≤ (y1 : Rat)) → Inside (sorted4 (boxB x0 y0 x1 y1)) p := fun p hp => (inside_sorted ok).2 ((box_framed B).2 hp)
  have hin : ∀ z, Inside (sorted4 (boxB x0 y0 x1 y1)) z → Inside (boxB x0 y0 x1 y1) z := fun z hz => (inside_app.1 ((inside_sorted ok).1 hz)).1
  have put : ∀ g ∈ boxB x0 y0 x1 y1, ∀ a b : Pt, On g a → On g b → prm g a < prm g b → (((x0 : Rat) ≤ a.x ∧ a.x ≤ (x1 : Rat)) ∧ ((y0 : Rat) ≤ a.y ∧ a.y ≤ (y1 : Rat))) → (((x0 : Rat) ≤ b.x ∧ b.x ≤ (x1 : Rat)) ∧ ((y0 : Rat) ≤ b.y ∧ b.y ≤ (y1 : Rat))) → g ∈ makeR (boxB x0 y0 x1 y1) := fun g hg a b oa ob hab ia ib =>
    (mP g).2 ⟨edge_in G f (ok g hg) (fun z hz => hin z hz g hg) oa ob hab (pin a ia) (pin b ib), a, b, oa, ob, hab, pin a ia, pin b ib⟩
  refine sorted_unique (by rw [eP]; exact pick_sorted G) (boxB_sorted x0 y0 x1 y1) fun g => ⟨fun h => ?_, fun h => ?_⟩
  · obtain ⟨hL, a, b, oa, ob, hab, ia, ib⟩ := (mP g).1 h
    rcases List.mem_append.1 (made_mem ok h) with q | q
    · exact q
    · have hb := box_in.1 (hin a ia)
      have bl := B.lx
      have bl' := B.ly
      simp only [frameH, List.mem_cons, List.not_mem_nil, or_false] at q
      unfold On val at oa
      rcases q with rfl | rfl | rfl | rfl
      · have : (1000 : Rat) ≤ (x1 : Rat) := by simp only at oa; push_cast at oa; grind
        have : (1000 : Int) ≤ x1 := cast_le (q1000 ▸ this)
        have : x1 = 1000 := by omega
        simp [boxB, this]
      · have : (1000 : Rat) ≤ (y1 : Rat) := by simp only at oa; push_cast at oa; grind
        have : (1000 : Int) ≤ y1 := cast_le (q1000 ▸ this)
        have : y1 = 1000 := by omega
        simp [boxB, this]
      · have : (x0 : Rat) ≤ -1000 := by simp only at oa; push_cast at oa; grind
        have : x0 ≤ (-1000 : Int) := cast_le (q1000n ▸ this)
        have : x0 = -1000 := by omega
        simp [boxB, this]
      · have : (y0 : Rat) ≤ -1000 := by simp only at oa; push_cast at oa; grind
        have : y0 ≤ (-1000 : Int) := cast_le (q1000n ▸ this)
        have : y0 = -1000 := by omega
        simp [boxB, this]
  · have h' := h
    simp only [boxB, List.mem_cons, List.not_mem_nil, or_false] at h
    rcases h with rfl | rfl | rfl | rfl
    · exact put _ h' ⟨x1, y0⟩ ⟨x1, y1⟩ (by unfold On val; simp only; push_cast; grind) (by unfold On val; simp only; push_cast; grind) (by unfold prm; simp only; push_cast; grind) (by simp only; grind) (by simp only; grind)
    · exact put _ h' ⟨x1, y1⟩ ⟨x0, y1⟩ (by unfold On val; simp only; push_cast; grind) (by unfold On val; simp only; push_cast; grind) (by unfold prm; simp only; push_cast; grind) (by simp only; grind) (by simp only; grind)
    · exact put _ h' ⟨x0, y1⟩ ⟨x0, y0⟩ (by unfold On val; simp only; push_cast; grind) (by unfold On val; simp only; push_cast; grind) (by unfold prm; simp only; push_cast; grind) (by simp only; grind) (by simp only; grind)
    · exact put _ h' ⟨x0, y0⟩ ⟨x1, y0⟩ (by unfold On val; simp only; push_cast; grind) (by unfold On val; simp only; push_cast; grind) (by unfold prm; simp only; push_cast; grind) (by simp only; grind) (by simp only; grind)
theorem box_reg {x0 y0 x1 y1 : Int} (B : BoxBd x0 y0 x1 y1) : regionOk (boxB x0 y0 x1 y1) = true := by
  have := made_ok (boxB_ok B) (by simp [boxB])
  rw [box_made B] at this
  exact this
theorem box_set {x0 y0 x1 y1 : Int} {p : Pt} : setR (boxB x0 y0 x1 y1) p ↔ ((x0 : Rat) ≤ p.x ∧ p.x ≤ (x1 : Rat)) ∧ ((y0 : Rat) ≤ p.y ∧ p.y ≤ (y1 : Rat)) := by
  unfold setR
  rw [box_in]
  exact ⟨fun h => h.2, fun h => ⟨by simp [boxB], h⟩⟩
theorem box_corners {x0 y0 x1 y1 : Int} (B : BoxBd x0 y0 x1 y1) : cornersL (boxB x0 y0 x1 y1) = [⟨x1, y1, 1⟩, ⟨x0, y1, 1⟩, ⟨x0, y0, 1⟩, ⟨x1, y0, 1⟩] := by
  have b1 := B.lx
  have b2 := B.ly
  have w1 := whole_of (x := x1) (y := y1) (by omega) (by omega)
  have w2 := whole_of (x := x0) (y := y1) (by omega) (by omega)
  have w3 := whole_of (x := x0) (y := y0) (by omega) (by omega)
  have w4 := whole_of (x := x1) (y := y0) (by omega) (by omega)
  have r4 : List.range 4 = [0, 1, 2, 3] := rfl
  have l4 : (boxB x0 y0 x1 y1).length = 4 := rfl
  have c1 : crossI ⟨1, 0, x1⟩ ⟨0, 1, y1⟩ = (x1, y1, 1) := by unfold crossI cross; simp
  have c2 : crossI ⟨0, 1, y1⟩ ⟨-1, 0, -x0⟩ = (x0, y1, 1) := by unfold crossI cross; simp
  have c3 : crossI ⟨-1, 0, -x0⟩ ⟨0, -1, -y0⟩ = (x0, y0, 1) := by unfold crossI cross; simp
  have c4 : crossI ⟨0, -1, -y0⟩ ⟨1, 0, x1⟩ = (x1, y0, 1) := by unfold crossI cross; simp
  unfold cornersL
  rw [l4, r4]
  simp only [List.map_cons, List.map_nil]
  unfold cornerH cornerS nextH
  simp only [l4]
  simp only [boxB, List.getD_cons_zero, List.getD_cons_succ, show (0 + 1) % 4 = 1 from rfl, show (1 + 1) % 4 = 2 from rfl, show (2 + 1) % 4 = 3 from rfl, show (3 + 1) % 4 = 0 from rfl]
  rw [c1, c2, c3, c4]
  simp only [w1, w2, w3, w4]
/-- The small box that FnEroded draws. -/
structure SmallBd (a b c d : Int) : Prop where
  ha : 0 ≤ a ∧ a ≤ 3
  hb : 0 ≤ b ∧ b ≤ 3
  hc : 1 ≤ c ∧ c ≤ 4
  hd : 1 ≤ d ∧ d ≤ 4
theorem SmallBd.box {a b c d : Int} (S : SmallBd a b c d) : BoxBd (-a) (-b) c d := by
  obtain ⟨ha, hb, hc, hd⟩ := S
  exact ⟨by omega, by omega⟩
end Go.Proofs.YtabmfaamadbefaaGreat