/- Plain: the rooms that the reference draws. No program. -/
import Derived.Test.YtabmfaamadbefaaGreatZc
import Derived.Test.YtabmfaamadbefaaGreatQa
import Derived.Test.YtabmfaamadbefaaGreatZe
set_option linter.unusedSimpArgs false
set_option linter.unusedVariables false
set_option linter.unusedSectionVars false
namespace Go.Proofs.YtabmfaamadbefaaGreat
open Go.RowKit
structure RoomD (r : RoomV) : Prop where
  mq : ∃ e f g : Int, (0 ≤ e ∧ e ≤ 1) ∧ (0 ≤ f ∧ f ≤ 1) ∧ (0 ≤ g ∧ g ≤ 1) ∧ r.m = [r.q - 1 + e, f, -g, r.q - 1]
  q : 2 ≤ r.q ∧ r.q ≤ 10
  bx : 1 ≤ r.bx ∧ r.bx ≤ 3
  by_ : -1 ≤ r.by_ ∧ r.by_ ≤ 2
  lo : -14 ≤ r.lo ∧ r.lo ≤ -3
  hi : 3 ≤ r.hi ∧ r.hi ≤ 14
  ns : ∃ a : Int, (1 ≤ a ∧ a ≤ 2) ∧ r.ns = boxB (-a) (-1) a 1
  ls : ∃ x y : Int, (15 ≤ x ∧ x ≤ 44) ∧ (15 ≤ y ∧ y ≤ 44) ∧ (r.ls = boxB (-x) (-y) x y ∨ r.ls = makeR (boxB (-x) (-y) x y ++ [⟨1, 1, x + y / 2⟩]))
theorem room_map {r : RoomV} (D : RoomD r) : mapOk r.m r.q = true ∧ detI r.m ≠ 0 := by
  obtain ⟨e, f, g, he, hf, hg, hm⟩ := D.mq
  have hq := D.q
  rw [hm]
  refine ⟨?_, ?_⟩
  · simp only [mapOk, List.length_cons, List.length_nil, List.all_cons, List.all_nil, Bool.and_true, Bool.and_eq_true, smallI, inR, decide_eq_true_eq]
    and_intros <;> first | trivial | omega
  · unfold detI
    simp only [List.getD_cons_zero, List.getD_cons_succ]
    have m1 := Int.mul_pos (show 0 < r.q - 1 + e by omega) (show 0 < r.q - 1 by omega)
    have m2 := Int.mul_nonneg hf.1 hg.1
    have : f * -g = -(f * g) := by rw [Int.mul_neg]
    omega
theorem cut_half {x y : Int} (hx : 15 ≤ x ∧ x ≤ 44) (hy : 15 ≤ y ∧ y ≤ 44) : HOk ⟨1, 1, x + y / 2⟩ := by
  refine ⟨by simp, by simp, by simp only; omega, by unfold NZ; simp, ?_⟩
  unfold Prim
  simp [gcdL]
theorem limit_box {x y : Int} (hx : 15 ≤ x ∧ x ≤ 44) (hy : 15 ≤ y ∧ y ≤ 44) : BoxBd (-x) (-y) x y := ⟨by omega, by omega⟩
theorem limit_okL {x y : Int} (hx : 15 ≤ x ∧ x ≤ 44) (hy : 15 ≤ y ∧ y ≤ 44) : ∀ g ∈ boxB (-x) (-y) x y ++ [⟨1, 1, x + y / 2⟩], HOk g := fun g hg => by
  rcases List.mem_append.1 hg with h | h
  · exact boxB_ok (limit_box hx hy) g h
  · rw [List.mem_singleton.1 h]; exact cut_half hx hy
/-- What is known of the limits of a drawn room. -/
structure LimP (p : List H3) : Prop where
  reg : regionOk p = true
  len : p.length ≤ 9
  small : ∀ g ∈ p, HOk g ∧ (-1 ≤ g.a ∧ g.a ≤ 1) ∧ (-1 ≤ g.b ∧ g.b ≤ 1) ∧ (-1000 ≤ g.c ∧ g.c ≤ 1000)
  box : ∀ x, setR p x → ((-44 : Rat) ≤ x.x ∧ x.x ≤ 44) ∧ ((-44 : Rat) ≤ x.y ∧ x.y ≤ 44)
  core : ∀ x : Pt, ((-11 : Rat) ≤ x.x ∧ x.x ≤ 11) → ((-11 : Rat) ≤ x.y ∧ x.y ≤ 11) → setR p x
theorem core_fat {A : Pt → Prop} {M : Rat} (hM : 0 < M) (h : ∀ x : Pt, (-M ≤ x.x ∧ x.x ≤ M) → (-M ≤ x.y ∧ x.y ≤ M) → A x) : FatP A := by
  refine ⟨⟨0, 0⟩, M, hM, fun y hy => ?_⟩
  unfold NbP at hy
  simp only at hy
  exact h y (by grind) (by grind)
theorem core_frame {z : Pt} (h1 : (-11 : Rat) ≤ z.x ∧ z.x ≤ 11) (h2 : (-11 : Rat) ≤ z.y ∧ z.y ≤ 11) : Inside frameH z := frame_pt (by grind)
theorem core_cut {x y : Int} (hx : 15 ≤ x ∧ x ≤ 44) (hy : 15 ≤ y ∧ y ≤ 44) {z : Pt} (h1 : (-11 : Rat) ≤ z.x ∧ z.x ≤ 11) (h2 : (-11 : Rat) ≤ z.y ∧ z.y ≤ 11) : In ⟨1, 1, x + y / 2⟩ z := by
  have c22 : ((22 : Int) : Rat) ≤ ((x + y / 2 : Int) : Rat) := le_cast (by omega)
  have c22' : ((22 : Int) : Rat) = 22 := rfl
  rw [c22'] at c22
  have e1 : ((1 : Int) : Rat) = 1 := rfl
  unfold In val
  simp only
  rw [e1]
  generalize ((x + y / 2 : Int) : Rat) = k at *
  grind
theorem limits {r : RoomV} (D : RoomD r) : LimP r.ls := by
  obtain ⟨x, y, hx, hy, h⟩ := D.ls
  have B := limit_box hx hy
  have x1 := le_cast hx.1; have x2 := le_cast hx.2; have y1 := le_cast hy.1; have y2 := le_cast hy.2
  push_cast at x1 x2 y1 y2
  have hb : ∀ z : Pt, (((-x : Int) : Rat) ≤ z.x ∧ z.x ≤ (x : Rat)) ∧ (((-y : Int) : Rat) ≤ z.y ∧ z.y ≤ (y : Rat)) → ((-44 : Rat) ≤ z.x ∧ z.x ≤ 44) ∧ ((-44 : Rat) ≤ z.y ∧ z.y ≤ 44) := fun z hz => by push_cast at hz; grind
  have hc : ∀ z : Pt, ((-11 : Rat) ≤ z.x ∧ z.x ≤ 11) → ((-11 : Rat) ≤ z.y ∧ z.y ≤ 11) → (((-x : Int) : Rat) ≤ z.x ∧ z.x ≤ (x : Rat)) ∧ (((-y : Int) : Rat) ≤ z.y ∧ z.y ≤ (y : Rat)) := fun z h1 h2 => by push_cast; grind
  have sm : ∀ g ∈ boxB (-x) (-y) x y, (-1 ≤ g.a ∧ g.a ≤ 1) ∧ (-1 ≤ g.b ∧ g.b ≤ 1) ∧ (-1000 ≤ g.c ∧ g.c ≤ 1000) := fun g hg => by
    simp only [boxB, List.mem_cons, List.not_mem_nil, or_false] at hg
    rcases hg with rfl | rfl | rfl | rfl <;> (simp only; omega)
  rcases h with h | h
  · rw [h]
    exact ⟨box_reg B, by simp [boxB], fun g hg => ⟨boxB_ok B g hg, sm g hg⟩, fun z hz => hb z (box_set.1 hz), fun z h1 h2 => box_set.2 (hc z h1 h2)⟩
  · have ok := limit_okL hx hy
    have hset : ∀ z, setR r.ls z ↔ regP (Inside (boxB (-x) (-y) x y ++ [⟨1, 1, x + y / 2⟩] ++ frameH)) z := fun z => by rw [h]; exact set_made ok
    have hcore : ∀ z : Pt, ((-11 : Rat) ≤ z.x ∧ z.x ≤ 11) → ((-11 : Rat) ≤ z.y ∧ z.y ≤ 11) → Inside (boxB (-x) (-y) x y ++ [⟨1, 1, x + y / 2⟩] ++ frameH) z := fun z h1 h2 => by
      rw [inside_app, inside_app, box_in, inside_one]
      exact ⟨⟨hc z h1 h2, core_cut hx hy h1 h2⟩, core_frame h1 h2⟩
    have fat : FatP (Inside (boxB (-x) (-y) x y ++ [⟨1, 1, x + y / 2⟩] ++ frameH)) := core_fat (M := 11) (by grind) hcore
    refine ⟨by rw [h]; exact made_ok ok (by show 5 ≤ 30; omega), ?_, fun g hg => ?_, fun z hz => ?_, fun z h1 h2 => (hset z).2 ⟨fat, hcore z h1 h2⟩⟩
    · rw [h]
      have h5 : (boxB (-x) (-y) x y ++ [(⟨1, 1, x + y / 2⟩ : H3)]).length = 5 := rfl
      have := made_len ok
      rw [h5] at this
      exact this
    · rw [h] at hg
      refine ⟨ok_framed ok g (made_mem ok hg), ?_⟩
      rcases List.mem_append.1 (made_mem ok hg) with q | q
      · rcases List.mem_append.1 q with q | q
        · exact sm g q
        · rw [List.mem_singleton.1 q]; simp only; omega
      · simp only [frameH, List.mem_cons, List.not_mem_nil, or_false] at q
        rcases q with rfl | rfl | rfl | rfl <;> (simp only; omega)
    · have := ((hset z).1 hz).2
      rw [inside_app, inside_app, box_in] at this
      exact hb z this.1.1
theorem LimP.ne {p : List H3} (L : LimP p) : p ≠ [] := (L.core ⟨0, 0⟩ (by grind) (by grind)).1
theorem noise_box {a : Int} (ha : 1 ≤ a ∧ a ≤ 2) : BoxBd (-a) (-1) a 1 := ⟨by omega, by omega⟩
theorem noise_in {r : RoomV} (D : RoomD r) {t : Pt} (h : setR r.ns t) : ((-2 : Rat) ≤ t.x ∧ t.x ≤ 2) ∧ ((-1 : Rat) ≤ t.y ∧ t.y ≤ 1) := by
  obtain ⟨a, ha, e⟩ := D.ns
  rw [e, box_set] at h
  have c1 := le_cast ha.2
  push_cast at c1 h
  grind
theorem noise_zero {r : RoomV} (D : RoomD r) : setR r.ns ⟨0, 0⟩ := by
  obtain ⟨a, ha, e⟩ := D.ns
  rw [e, box_set]
  have c1 := le_cast ha.1
  push_cast at c1 ⊢
  grind
theorem noise_reg {r : RoomV} (D : RoomD r) : regionOk r.ns = true ∧ r.ns ≠ [] ∧ r.ns.length = 4 := by
  obtain ⟨a, ha, e⟩ := D.ns
  rw [e]
  exact ⟨box_reg (noise_box ha), by simp [boxB], rfl⟩
theorem room_ok {r : RoomV} (D : RoomD r) : roomOk r = true := by
  obtain ⟨h1, h2⟩ := room_map D
  have L := limits D
  obtain ⟨n1, n2, _⟩ := noise_reg D
  have bx := D.bx; have bY := D.by_; have lo := D.lo; have hi := D.hi
  unfold roomOk turnOk rangeB
  simp only [Bool.and_eq_true, inR_iff, Bool.not_eq_true', decide_eq_false_iff_not, bne_iff_ne]
  have := L.ne
  refine ?_
  simp only [h1, L.reg, n1]
  and_intros <;> first | trivial | assumption | omega | simp_all
theorem short_room {r : RoomV} (D : RoomD r) : r.Short := by
  obtain ⟨e, f, g, _, _, _, hm⟩ := D.mq
  refine ⟨by rw [hm]; simp, by have := (noise_reg D).2.2; omega, by have := (limits D).len; omega⟩
end Go.Proofs.YtabmfaamadbefaaGreat