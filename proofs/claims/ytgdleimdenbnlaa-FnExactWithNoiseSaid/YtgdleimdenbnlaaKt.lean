/- Contracts of the laws' toRoom, of rooms marked, of rooms compared. Condition: rows of at most 2^20. -/
import Derived.Test.YtgdleimdenbnlaaKm
set_option linter.unusedVariables false
set_option linter.unusedSimpArgs false
set_option linter.unusedSectionVars false
namespace Go.Proofs.Ytgdleimdenbnlaa
open Go.ChangeShapes Go.WideShapes Go.ChangeAt Go.RowKit Go.Joins Go.Deep

theorem IB.set_box {g b i : Nat} {T : TypeId} {w : World} {xs : List Int} {arr : Array Value} {fr : Nat × Nat} {v : Value} (h : IB g w xs) (hb : w.heap[b]? = some (.cells arr T fr)) (hT : T ≠ 3) : IB g (w.setCell ⟨b, i, none⟩ v) xs := by
  obtain ⟨cu, h1, h2, h3⟩ := h
  refine ⟨cu, ?_, h2, h3⟩
  rw [heap_setCell_other]
  · exact h1
  · rintro rfl
    rw [h1] at hb
    injection hb with hb; injection hb with _ hb; exact hT hb.symm
def Box (b : Nat) (T : TypeId) (w : World) : Prop := ∃ arr fr, w.heap[b]? = some (.cells arr T fr)
theorem Box.set {b i : Nat} {T : TypeId} {w : World} {v : Value} (h : Box b T w) : Box b T (w.setCell ⟨b, i, none⟩ v) := by
  obtain ⟨arr, fr, h⟩ := h
  obtain ⟨a', h'⟩ : ∃ a', (w.setCell ⟨b, i, none⟩ v).heap[b]? = some (.cells a' T fr) := by
    refine ⟨arr.setIfInBounds i v, ?_⟩
    simp [World.setCell, Array.getElem?_modify, h]
  exact ⟨a', fr, h'⟩
theorem IB.sb {g b i : Nat} {T : TypeId} {w : World} {xs : List Int} {v : Value} (hT : T ≠ 3) (hB : Box b T w) (h : IB g w xs) : IB g (w.setCell ⟨b, i, none⟩ v) xs := by
  obtain ⟨arr, fr, hb⟩ := hB
  exact h.set_box hb hT
theorem RB.sb {B b i : Nat} {E T : TypeId} {w : World} {A : Option Addr} {c : Nat} {xs : List H3} {v : Value} (hT : T ≠ E) (hB : Box b T w) (h : RB B E w A c xs) : RB B E (w.setCell ⟨b, i, none⟩ v) A c xs := by
  obtain ⟨arr, fr, hb⟩ := hB
  exact h.set_box hb hT
theorem heap_sb {b i : Nat} {w : World} {v : Value} {k : Nat} {o : Obj} (hk : k ≠ b) (h : w.heap[k]? = some o) : (w.setCell ⟨b, i, none⟩ v).heap[k]? = some o := (heap_setCell_other _ ⟨b, i, none⟩ _ _ hk).trans h

theorem set8_0 {w : World} {b : Nat} {T : TypeId} {a0 a1 a2 a3 a4 a5 a6 a7 v : Value} (h : w.heap[b]? = some (.cells #[a0, a1, a2, a3, a4, a5, a6, a7] T (0, 0))) : (w.setCell ⟨b, 0, none⟩ v).heap[b]? = some (.cells #[v, a1, a2, a3, a4, a5, a6, a7] T (0, 0)) := by
  have := heap_setCell_same w b 0 _ T v h
  simpa using this
theorem set8_1 {w : World} {b : Nat} {T : TypeId} {a0 a1 a2 a3 a4 a5 a6 a7 v : Value} (h : w.heap[b]? = some (.cells #[a0, a1, a2, a3, a4, a5, a6, a7] T (0, 0))) : (w.setCell ⟨b, 1, none⟩ v).heap[b]? = some (.cells #[a0, v, a2, a3, a4, a5, a6, a7] T (0, 0)) := by
  have := heap_setCell_same w b 1 _ T v h
  simpa using this
theorem set8_2 {w : World} {b : Nat} {T : TypeId} {a0 a1 a2 a3 a4 a5 a6 a7 v : Value} (h : w.heap[b]? = some (.cells #[a0, a1, a2, a3, a4, a5, a6, a7] T (0, 0))) : (w.setCell ⟨b, 2, none⟩ v).heap[b]? = some (.cells #[a0, a1, v, a3, a4, a5, a6, a7] T (0, 0)) := by
  have := heap_setCell_same w b 2 _ T v h
  simpa using this
theorem set8_3 {w : World} {b : Nat} {T : TypeId} {a0 a1 a2 a3 a4 a5 a6 a7 v : Value} (h : w.heap[b]? = some (.cells #[a0, a1, a2, a3, a4, a5, a6, a7] T (0, 0))) : (w.setCell ⟨b, 3, none⟩ v).heap[b]? = some (.cells #[a0, a1, a2, v, a4, a5, a6, a7] T (0, 0)) := by
  have := heap_setCell_same w b 3 _ T v h
  simpa using this
theorem set8_4 {w : World} {b : Nat} {T : TypeId} {a0 a1 a2 a3 a4 a5 a6 a7 v : Value} (h : w.heap[b]? = some (.cells #[a0, a1, a2, a3, a4, a5, a6, a7] T (0, 0))) : (w.setCell ⟨b, 4, none⟩ v).heap[b]? = some (.cells #[a0, a1, a2, a3, v, a5, a6, a7] T (0, 0)) := by
  have := heap_setCell_same w b 4 _ T v h
  simpa using this
theorem set8_5 {w : World} {b : Nat} {T : TypeId} {a0 a1 a2 a3 a4 a5 a6 a7 v : Value} (h : w.heap[b]? = some (.cells #[a0, a1, a2, a3, a4, a5, a6, a7] T (0, 0))) : (w.setCell ⟨b, 5, none⟩ v).heap[b]? = some (.cells #[a0, a1, a2, a3, a4, v, a6, a7] T (0, 0)) := by
  have := heap_setCell_same w b 5 _ T v h
  simpa using this
theorem set8_6 {w : World} {b : Nat} {T : TypeId} {a0 a1 a2 a3 a4 a5 a6 a7 v : Value} (h : w.heap[b]? = some (.cells #[a0, a1, a2, a3, a4, a5, a6, a7] T (0, 0))) : (w.setCell ⟨b, 6, none⟩ v).heap[b]? = some (.cells #[a0, a1, a2, a3, a4, a5, v, a7] T (0, 0)) := by
  have := heap_setCell_same w b 6 _ T v h
  simpa using this
theorem set8_7 {w : World} {b : Nat} {T : TypeId} {a0 a1 a2 a3 a4 a5 a6 a7 v : Value} (h : w.heap[b]? = some (.cells #[a0, a1, a2, a3, a4, a5, a6, a7] T (0, 0))) : (w.setCell ⟨b, 7, none⟩ v).heap[b]? = some (.cells #[a0, a1, a2, a3, a4, a5, a6, v] T (0, 0)) := by
  have := heap_setCell_same w b 7 _ T v h
  simpa using this
set_option maxRecDepth 100000 in
set_option maxHeartbeats 8000000 in
theorem toRoom_any (r : RoomV) {A1 A2 A3 : Option Addr} {c1 c2 c3 : Nat} {w : World} (R : RLM w r A1 A2 A3) (hs : r.Short) :
    Calls Try.prog 15 #[.agg #[.slice A1 r.m.length c1, .int .i64 r.q, .int .i64 r.bx, .int .i64 r.by_, .int .i64 r.lo, .int .i64 r.hi, .slice A2 r.ns.length c2, .slice A3 r.ls.length c3]] w (RoomOut w r) := by
  obtain ⟨R1, R2, R3⟩ := R
  have k1 := hs.m
  have k2 := hs.ns
  have k3 := hs.ls
  go_enter Try.func15, Try.ntmps15
  go_wp2_with fail
  obtain ⟨V, hV⟩ : ∃ V, V = ((w.alloc (.cells #[.slice A1 r.m.length c1, .int .i64 r.q, .int .i64 r.bx, .int .i64 r.by_, .int .i64 r.lo, .int .i64 r.hi, .slice A2 r.ns.length c2, .slice A3 r.ls.length c3] 27)).alloc (.cells #[.slice none 0 0, .int .i64 0, .int .i64 0, .int .i64 0, .int .i64 0, .int .i64 0, .slice none 0 0, .slice none 0 0] 36)).alloc (.cells #[.slice none 0 0, .int .i64 0, .int .i64 0, .int .i64 0, .int .i64 0, .int .i64 0, .slice none 0 0, .slice none 0 0] 36) := ⟨_, rfl⟩
  rw [← hV]
  have T0 : Below w.heap.size w V := by rw [hV]; exact (by repeat (first | exact bR | refine bO ?_ | refine bA ?_ | refine bS ?_ | refine bD ?_ | refine bN ?_))
  have X0 : V.heap[w.heap.size]? = some (.cells #[.slice A1 r.m.length c1, .int .i64 r.q, .int .i64 r.bx, .int .i64 r.by_, .int .i64 r.lo, .int .i64 r.hi, .slice A2 r.ns.length c2, .slice A3 r.ls.length c3] 27 (0, 0)) := by rw [hV]; exact (heap_old_at (by simp; omega)).trans ((heap_old_at (by simp)).trans (heap_new_at (by simp) rfl))
  have X1 : V.heap[w.heap.size + 1]? = some (.cells #[.slice none 0 0, .int .i64 0, .int .i64 0, .int .i64 0, .int .i64 0, .int .i64 0, .slice none 0 0, .slice none 0 0] 36 (0, 0)) := by rw [hV]; exact (heap_old_at (by simp)).trans (heap_new_at (by simp) rfl)
  have X2 : V.heap[w.heap.size + 1 + 1]? = some (.cells #[.slice none 0 0, .int .i64 0, .int .i64 0, .int .i64 0, .int .i64 0, .int .i64 0, .slice none 0 0, .slice none 0 0] 36 (0, 0)) := by rw [hV]; exact heap_new_at (by simp) rfl
  clear hV
  obtain ⟨b0, e0⟩ : ∃ b, w.heap.size = b := ⟨_, rfl⟩
  obtain ⟨b1, e1⟩ : ∃ b, b0 + 1 = b := ⟨_, rfl⟩
  obtain ⟨b2, e2⟩ : ∃ b, b1 + 1 = b := ⟨_, rfl⟩
  rw [e0] at X0 X1 X2 ⊢
  rw [e1] at X1 X2 ⊢
  rw [e2] at X2 ⊢
  have n20 : b0 ≠ b2 := by omega
  have n21 : b1 ≠ b2 := by omega
  have n10 : b0 ≠ b1 := by omega
  have n12 : b2 ≠ b1 := by omega
  have hw0 : w.heap.size ≤ b0 := by omega
  have hw1 : w.heap.size ≤ b1 := by omega
  have hw2 : w.heap.size ≤ b2 := by omega
  clear e1 e2
  refine (toIntS_any (R1.below T0) k1).mono ?_
  rintro e W1 ⟨a1, d1, rfl, lo1, I1, hb1⟩
  have T1 : Below w.heap.size w W1 := T0.trans (hb1.mono T0.size)
  have lo : w.heap.size ≤ a1 := Nat.le_trans T0.size lo1
  replace X0 := (hb1.block b0 (Array.getElem?_eq_some_iff.1 X0).1).trans X0
  replace X1 := (hb1.block b1 (Array.getElem?_eq_some_iff.1 X1).1).trans X1
  replace X2 := (hb1.block b2 (Array.getElem?_eq_some_iff.1 X2).1).trans X2
  clear T0 hb1 lo1
  have y00 := cell_blk (j := 0) (v := .slice A1 r.m.length c1) X0 rfl
  have y01 := cell_blk (j := 1) (v := .int .i64 r.q) X0 rfl
  have y02 := cell_blk (j := 2) (v := .int .i64 r.bx) X0 rfl
  have y03 := cell_blk (j := 3) (v := .int .i64 r.by_) X0 rfl
  have y04 := cell_blk (j := 4) (v := .int .i64 r.lo) X0 rfl
  have y05 := cell_blk (j := 5) (v := .int .i64 r.hi) X0 rfl
  have y06 := cell_blk (j := 6) (v := .slice A2 r.ns.length c2) X0 rfl
  have y07 := cell_blk (j := 7) (v := .slice A3 r.ls.length c3) X0 rfl
  have l0 := (Array.getElem?_eq_some_iff.1 X0).1
  have y20 := cell_blk (j := 0) (v := .slice none 0 0) X2 rfl
  have y21 := cell_blk (j := 1) (v := .int .i64 0) X2 rfl
  have y22 := cell_blk (j := 2) (v := .int .i64 0) X2 rfl
  have y23 := cell_blk (j := 3) (v := .int .i64 0) X2 rfl
  have y24 := cell_blk (j := 4) (v := .int .i64 0) X2 rfl
  have y25 := cell_blk (j := 5) (v := .int .i64 0) X2 rfl
  have y26 := cell_blk (j := 6) (v := .slice none 0 0) X2 rfl
  have y27 := cell_blk (j := 7) (v := .slice none 0 0) X2 rfl
  have z20 := frozen_blk (j := 0) X2
  have z21 := frozen_blk (j := 1) X2
  have z22 := frozen_blk (j := 2) X2
  have z23 := frozen_blk (j := 3) X2
  have z24 := frozen_blk (j := 4) X2
  have z25 := frozen_blk (j := 5) X2
  have z26 := frozen_blk (j := 6) X2
  have z27 := frozen_blk (j := 7) X2
  have l2 := (Array.getElem?_eq_some_iff.1 X2).1
  go_wp2_with fail
  clear y00 y01 y02 y03 y04 y05 y06 y07 y20 y21 y22 y23 y24 y25 y26 y27 z20 z21 z22 z23 z24 z25 z26 z27 l0 l2
  obtain ⟨V1, hV⟩ : ∃ V1, V1 = ((((((W1.setCell ⟨b2, 0, none⟩ (.slice (some ⟨a1, 0, none⟩) r.m.length d1)).setCell ⟨b2, 1, none⟩ (.int .i64 r.q)).setCell ⟨b2, 2, none⟩ (.int .i64 r.bx)).setCell ⟨b2, 3, none⟩ (.int .i64 r.by_)).setCell ⟨b2, 4, none⟩ (.int .i64 r.lo)).setCell ⟨b2, 5, none⟩ (.int .i64 r.hi)) := ⟨_, rfl⟩
  rw [← hV]
  have TT : Below w.heap.size w V1 := by rw [hV]; exact (Below.setCell (p := ⟨b2, _, none⟩) (Below.setCell (p := ⟨b2, _, none⟩) (Below.setCell (p := ⟨b2, _, none⟩) (Below.setCell (p := ⟨b2, _, none⟩) (Below.setCell (p := ⟨b2, _, none⟩) (Below.setCell (p := ⟨b2, _, none⟩) T1 hw2 _) hw2 _) hw2 _) hw2 _) hw2 _) hw2 _)
  have BX := Lib.hid (show Box b2 36 W1 from ⟨_, _, X2⟩)
  replace I1 : IB a1 V1 r.m := by rw [hV]; exact (IB.sb (by decide) (Box.set (Box.set (Box.set (Box.set (Box.set BX.out))))) (IB.sb (by decide) (Box.set (Box.set (Box.set (Box.set BX.out)))) (IB.sb (by decide) (Box.set (Box.set (Box.set BX.out))) (IB.sb (by decide) (Box.set (Box.set BX.out)) (IB.sb (by decide) (Box.set BX.out) (IB.sb (by decide) BX.out I1))))))
  replace X0 : V1.heap[b0]? = some (.cells #[.slice A1 r.m.length c1, .int .i64 r.q, .int .i64 r.bx, .int .i64 r.by_, .int .i64 r.lo, .int .i64 r.hi, .slice A2 r.ns.length c2, .slice A3 r.ls.length c3] 27 (0, 0)) := by rw [hV]; exact heap_sb (by first | exact n20 | exact n21) (heap_sb (by first | exact n20 | exact n21) (heap_sb (by first | exact n20 | exact n21) (heap_sb (by first | exact n20 | exact n21) (heap_sb (by first | exact n20 | exact n21) (heap_sb (by first | exact n20 | exact n21) (X0))))))
  replace X1 : V1.heap[b1]? = some (.cells #[.slice none 0 0, .int .i64 0, .int .i64 0, .int .i64 0, .int .i64 0, .int .i64 0, .slice none 0 0, .slice none 0 0] 36 (0, 0)) := by rw [hV]; exact heap_sb (by first | exact n20 | exact n21) (heap_sb (by first | exact n20 | exact n21) (heap_sb (by first | exact n20 | exact n21) (heap_sb (by first | exact n20 | exact n21) (heap_sb (by first | exact n20 | exact n21) (heap_sb (by first | exact n20 | exact n21) (X1))))))
  replace X2 : V1.heap[b2]? = some (.cells #[.slice (some ⟨a1, 0, none⟩) r.m.length d1, .int .i64 r.q, .int .i64 r.bx, .int .i64 r.by_, .int .i64 r.lo, .int .i64 r.hi, .slice none 0 0, .slice none 0 0] 36 (0, 0)) := by rw [hV]; exact (set8_5 (set8_4 (set8_3 (set8_2 (set8_1 (set8_0 X2))))))
  clear hV T1 BX
  refine (toRegion_any (R2.below TT) k2).mono ?_
  rintro e W2 ⟨A7, d7, rfl, N1, hb1⟩
  have T1 : Below w.heap.size w W2 := TT.trans (hb1.mono TT.size)
  replace N1 := N1.weak (B' := w.heap.size) TT.size
  replace I1 := I1.below hb1
  replace X0 := (hb1.block b0 (Array.getElem?_eq_some_iff.1 X0).1).trans X0
  replace X1 := (hb1.block b1 (Array.getElem?_eq_some_iff.1 X1).1).trans X1
  replace X2 := (hb1.block b2 (Array.getElem?_eq_some_iff.1 X2).1).trans X2
  clear TT hb1
  have y00 := cell_blk (j := 0) (v := .slice A1 r.m.length c1) X0 rfl
  have y01 := cell_blk (j := 1) (v := .int .i64 r.q) X0 rfl
  have y02 := cell_blk (j := 2) (v := .int .i64 r.bx) X0 rfl
  have y03 := cell_blk (j := 3) (v := .int .i64 r.by_) X0 rfl
  have y04 := cell_blk (j := 4) (v := .int .i64 r.lo) X0 rfl
  have y05 := cell_blk (j := 5) (v := .int .i64 r.hi) X0 rfl
  have y06 := cell_blk (j := 6) (v := .slice A2 r.ns.length c2) X0 rfl
  have y07 := cell_blk (j := 7) (v := .slice A3 r.ls.length c3) X0 rfl
  have l0 := (Array.getElem?_eq_some_iff.1 X0).1
  have y20 := cell_blk (j := 0) (v := .slice (some ⟨a1, 0, none⟩) r.m.length d1) X2 rfl
  have y21 := cell_blk (j := 1) (v := .int .i64 r.q) X2 rfl
  have y22 := cell_blk (j := 2) (v := .int .i64 r.bx) X2 rfl
  have y23 := cell_blk (j := 3) (v := .int .i64 r.by_) X2 rfl
  have y24 := cell_blk (j := 4) (v := .int .i64 r.lo) X2 rfl
  have y25 := cell_blk (j := 5) (v := .int .i64 r.hi) X2 rfl
  have y26 := cell_blk (j := 6) (v := .slice none 0 0) X2 rfl
  have y27 := cell_blk (j := 7) (v := .slice none 0 0) X2 rfl
  have z20 := frozen_blk (j := 0) X2
  have z21 := frozen_blk (j := 1) X2
  have z22 := frozen_blk (j := 2) X2
  have z23 := frozen_blk (j := 3) X2
  have z24 := frozen_blk (j := 4) X2
  have z25 := frozen_blk (j := 5) X2
  have z26 := frozen_blk (j := 6) X2
  have z27 := frozen_blk (j := 7) X2
  have l2 := (Array.getElem?_eq_some_iff.1 X2).1
  go_wp2_with fail
  clear y00 y01 y02 y03 y04 y05 y06 y07 y20 y21 y22 y23 y24 y25 y26 y27 z20 z21 z22 z23 z24 z25 z26 z27 l0 l2
  obtain ⟨V2, hV⟩ : ∃ V2, V2 = (W2.setCell ⟨b2, 6, none⟩ (.slice A7 r.ns.length d7)) := ⟨_, rfl⟩
  rw [← hV]
  have TT : Below w.heap.size w V2 := by rw [hV]; exact (Below.setCell (p := ⟨b2, _, none⟩) T1 hw2 _)
  have BX := Lib.hid (show Box b2 36 W2 from ⟨_, _, X2⟩)
  replace I1 : IB a1 V2 r.m := by rw [hV]; exact (IB.sb (by decide) BX.out I1)
  replace N1 : RB w.heap.size 49 V2 A7 d7 r.ns := by rw [hV]; exact (RB.sb (by decide) BX.out N1)
  replace X0 : V2.heap[b0]? = some (.cells #[.slice A1 r.m.length c1, .int .i64 r.q, .int .i64 r.bx, .int .i64 r.by_, .int .i64 r.lo, .int .i64 r.hi, .slice A2 r.ns.length c2, .slice A3 r.ls.length c3] 27 (0, 0)) := by rw [hV]; exact heap_sb (by first | exact n20 | exact n21) (X0)
  replace X1 : V2.heap[b1]? = some (.cells #[.slice none 0 0, .int .i64 0, .int .i64 0, .int .i64 0, .int .i64 0, .int .i64 0, .slice none 0 0, .slice none 0 0] 36 (0, 0)) := by rw [hV]; exact heap_sb (by first | exact n20 | exact n21) (X1)
  replace X2 : V2.heap[b2]? = some (.cells #[.slice (some ⟨a1, 0, none⟩) r.m.length d1, .int .i64 r.q, .int .i64 r.bx, .int .i64 r.by_, .int .i64 r.lo, .int .i64 r.hi, .slice A7 r.ns.length d7, .slice none 0 0] 36 (0, 0)) := by rw [hV]; exact (set8_6 X2)
  clear hV T1 BX
  refine (toRegion_any (R3.below TT) k3).mono ?_
  rintro e W3 ⟨A8, d8, rfl, M1, hb1⟩
  have T1 : Below w.heap.size w W3 := TT.trans (hb1.mono TT.size)
  have AP : Apart A7 A8 := apart_new N1 M1 (Nat.le_refl _)
  replace M1 := M1.weak (B' := w.heap.size) TT.size
  replace I1 := I1.below hb1
  replace N1 := N1.below hb1
  replace X0 := (hb1.block b0 (Array.getElem?_eq_some_iff.1 X0).1).trans X0
  replace X1 := (hb1.block b1 (Array.getElem?_eq_some_iff.1 X1).1).trans X1
  replace X2 := (hb1.block b2 (Array.getElem?_eq_some_iff.1 X2).1).trans X2
  clear TT hb1
  have BX := Lib.hid (show Box b2 36 W3 from ⟨_, _, X2⟩)
  have BY := Lib.hid (show Box b1 36 (W3.setCell ⟨b2, 7, none⟩ (.slice A8 r.ls.length d8)) from ⟨_, _, heap_sb n21 X1⟩)
  have HI := Lib.hid (show IB a1 (((((((((W3.setCell ⟨b2, 7, none⟩ (.slice A8 r.ls.length d8)).setCell ⟨b1, 0, none⟩ (.slice (some ⟨a1, 0, none⟩) r.m.length d1)).setCell ⟨b1, 1, none⟩ (.int .i64 r.q)).setCell ⟨b1, 2, none⟩ (.int .i64 r.bx)).setCell ⟨b1, 3, none⟩ (.int .i64 r.by_)).setCell ⟨b1, 4, none⟩ (.int .i64 r.lo)).setCell ⟨b1, 5, none⟩ (.int .i64 r.hi)).setCell ⟨b1, 6, none⟩ (.slice A7 r.ns.length d7)).setCell ⟨b1, 7, none⟩ (.slice A8 r.ls.length d8)) r.m from (IB.sb (by decide) (Box.set (Box.set (Box.set (Box.set (Box.set (Box.set (Box.set BY.out))))))) (IB.sb (by decide) (Box.set (Box.set (Box.set (Box.set (Box.set (Box.set BY.out)))))) (IB.sb (by decide) (Box.set (Box.set (Box.set (Box.set (Box.set BY.out))))) (IB.sb (by decide) (Box.set (Box.set (Box.set (Box.set BY.out)))) (IB.sb (by decide) (Box.set (Box.set (Box.set BY.out))) (IB.sb (by decide) (Box.set (Box.set BY.out)) (IB.sb (by decide) (Box.set BY.out) (IB.sb (by decide) BY.out (IB.sb (by decide) BX.out I1))))))))))
  have HN := Lib.hid (show RB w.heap.size 49 (((((((((W3.setCell ⟨b2, 7, none⟩ (.slice A8 r.ls.length d8)).setCell ⟨b1, 0, none⟩ (.slice (some ⟨a1, 0, none⟩) r.m.length d1)).setCell ⟨b1, 1, none⟩ (.int .i64 r.q)).setCell ⟨b1, 2, none⟩ (.int .i64 r.bx)).setCell ⟨b1, 3, none⟩ (.int .i64 r.by_)).setCell ⟨b1, 4, none⟩ (.int .i64 r.lo)).setCell ⟨b1, 5, none⟩ (.int .i64 r.hi)).setCell ⟨b1, 6, none⟩ (.slice A7 r.ns.length d7)).setCell ⟨b1, 7, none⟩ (.slice A8 r.ls.length d8)) A7 d7 r.ns from (RB.sb (by decide) (Box.set (Box.set (Box.set (Box.set (Box.set (Box.set (Box.set BY.out))))))) (RB.sb (by decide) (Box.set (Box.set (Box.set (Box.set (Box.set (Box.set BY.out)))))) (RB.sb (by decide) (Box.set (Box.set (Box.set (Box.set (Box.set BY.out))))) (RB.sb (by decide) (Box.set (Box.set (Box.set (Box.set BY.out)))) (RB.sb (by decide) (Box.set (Box.set (Box.set BY.out))) (RB.sb (by decide) (Box.set (Box.set BY.out)) (RB.sb (by decide) (Box.set BY.out) (RB.sb (by decide) BY.out (RB.sb (by decide) BX.out N1))))))))))
  have HM := Lib.hid (show RB w.heap.size 49 (((((((((W3.setCell ⟨b2, 7, none⟩ (.slice A8 r.ls.length d8)).setCell ⟨b1, 0, none⟩ (.slice (some ⟨a1, 0, none⟩) r.m.length d1)).setCell ⟨b1, 1, none⟩ (.int .i64 r.q)).setCell ⟨b1, 2, none⟩ (.int .i64 r.bx)).setCell ⟨b1, 3, none⟩ (.int .i64 r.by_)).setCell ⟨b1, 4, none⟩ (.int .i64 r.lo)).setCell ⟨b1, 5, none⟩ (.int .i64 r.hi)).setCell ⟨b1, 6, none⟩ (.slice A7 r.ns.length d7)).setCell ⟨b1, 7, none⟩ (.slice A8 r.ls.length d8)) A8 d8 r.ls from (RB.sb (by decide) (Box.set (Box.set (Box.set (Box.set (Box.set (Box.set (Box.set BY.out))))))) (RB.sb (by decide) (Box.set (Box.set (Box.set (Box.set (Box.set (Box.set BY.out)))))) (RB.sb (by decide) (Box.set (Box.set (Box.set (Box.set (Box.set BY.out))))) (RB.sb (by decide) (Box.set (Box.set (Box.set (Box.set BY.out)))) (RB.sb (by decide) (Box.set (Box.set (Box.set BY.out))) (RB.sb (by decide) (Box.set (Box.set BY.out)) (RB.sb (by decide) (Box.set BY.out) (RB.sb (by decide) BY.out (RB.sb (by decide) BX.out M1))))))))))
  have y00 := cell_blk (j := 0) (v := .slice A1 r.m.length c1) X0 rfl
  have y01 := cell_blk (j := 1) (v := .int .i64 r.q) X0 rfl
  have y02 := cell_blk (j := 2) (v := .int .i64 r.bx) X0 rfl
  have y03 := cell_blk (j := 3) (v := .int .i64 r.by_) X0 rfl
  have y04 := cell_blk (j := 4) (v := .int .i64 r.lo) X0 rfl
  have y05 := cell_blk (j := 5) (v := .int .i64 r.hi) X0 rfl
  have y06 := cell_blk (j := 6) (v := .slice A2 r.ns.length c2) X0 rfl
  have y07 := cell_blk (j := 7) (v := .slice A3 r.ls.length c3) X0 rfl
  have l0 := (Array.getElem?_eq_some_iff.1 X0).1
  have y20 := cell_blk (j := 0) (v := .slice (some ⟨a1, 0, none⟩) r.m.length d1) X2 rfl
  have y21 := cell_blk (j := 1) (v := .int .i64 r.q) X2 rfl
  have y22 := cell_blk (j := 2) (v := .int .i64 r.bx) X2 rfl
  have y23 := cell_blk (j := 3) (v := .int .i64 r.by_) X2 rfl
  have y24 := cell_blk (j := 4) (v := .int .i64 r.lo) X2 rfl
  have y25 := cell_blk (j := 5) (v := .int .i64 r.hi) X2 rfl
  have y26 := cell_blk (j := 6) (v := .slice A7 r.ns.length d7) X2 rfl
  have y27 := cell_blk (j := 7) (v := .slice none 0 0) X2 rfl
  have z20 := frozen_blk (j := 0) X2
  have z21 := frozen_blk (j := 1) X2
  have z22 := frozen_blk (j := 2) X2
  have z23 := frozen_blk (j := 3) X2
  have z24 := frozen_blk (j := 4) X2
  have z25 := frozen_blk (j := 5) X2
  have z26 := frozen_blk (j := 6) X2
  have z27 := frozen_blk (j := 7) X2
  have l2 := (Array.getElem?_eq_some_iff.1 X2).1
  have y10 := cell_blk (j := 0) (v := .slice none 0 0) X1 rfl
  have y11 := cell_blk (j := 1) (v := .int .i64 0) X1 rfl
  have y12 := cell_blk (j := 2) (v := .int .i64 0) X1 rfl
  have y13 := cell_blk (j := 3) (v := .int .i64 0) X1 rfl
  have y14 := cell_blk (j := 4) (v := .int .i64 0) X1 rfl
  have y15 := cell_blk (j := 5) (v := .int .i64 0) X1 rfl
  have y16 := cell_blk (j := 6) (v := .slice none 0 0) X1 rfl
  have y17 := cell_blk (j := 7) (v := .slice none 0 0) X1 rfl
  have z10 := frozen_blk (j := 0) X1
  have z11 := frozen_blk (j := 1) X1
  have z12 := frozen_blk (j := 2) X1
  have z13 := frozen_blk (j := 3) X1
  have z14 := frozen_blk (j := 4) X1
  have z15 := frozen_blk (j := 5) X1
  have z16 := frozen_blk (j := 6) X1
  have z17 := frozen_blk (j := 7) X1
  have l1 := (Array.getElem?_eq_some_iff.1 X1).1
  clear I1 N1 M1 BX BY R1 R2 R3
  go_wp2
  refine bodyPost_ret (v := .agg #[.slice (some ⟨a1, 0, none⟩) r.m.length d1, .int .i64 r.q, .int .i64 r.bx, .int .i64 r.by_, .int .i64 r.lo, .int .i64 r.hi, .slice A7 r.ns.length d7, .slice A8 r.ls.length d8]) (by simp [results, Try.results15, go_sem, y10, z10, y11, z11, y12, z12, y13, z13, y14, z14, y15, z15, y16, z16, y17, z17, l1]) rfl ⟨a1, d1, A7, d7, A8, d8, rfl, ⟨lo, HI.out, HN.out, HM.out, AP⟩, (Below.setCell (p := ⟨b1, _, none⟩) (Below.setCell (p := ⟨b1, _, none⟩) (Below.setCell (p := ⟨b1, _, none⟩) (Below.setCell (p := ⟨b1, _, none⟩) (Below.setCell (p := ⟨b1, _, none⟩) (Below.setCell (p := ⟨b1, _, none⟩) (Below.setCell (p := ⟨b1, _, none⟩) (Below.setCell (p := ⟨b1, _, none⟩) (Below.setCell (p := ⟨b2, _, none⟩) T1 hw2 _) hw1 _) hw1 _) hw1 _) hw1 _) hw1 _) hw1 _) hw1 _) hw1 _)⟩
end Go.Proofs.Ytgdleimdenbnlaa
