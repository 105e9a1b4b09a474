/- The reference's BoxRegion at bounds in their range, and the small box that it draws. Condition: the code has at most 2^20 bytes. -/
import Derived.Test.YtabmfaamadbefaaCd
import Derived.Test.YtabmfaamadbefaaZe
set_option linter.unusedVariables false
set_option linter.unusedSimpArgs false
set_option linter.unusedSectionVars false
namespace Go.Proofs.Ytabmfaamadbefaa
open Go.RowKit

def BoxPost (w : World) (out : List H3) (e : Ending) (w' : World) : Prop := ∃ A c, e = .returned (.tuple #[.agg #[.slice A out.length c], .bool true]) ∧ RB w.heap.size 36 w' A c out ∧ Below w.heap.size w w'
set_option maxRecDepth 100000 in
set_option maxHeartbeats 4000000 in
theorem spec_BoxRegion_any {x0 y0 x1 y1 : Int} {w : World} (B : BoxBd x0 y0 x1 y1) :
    Calls Try.prog 57 #[.int .i64 x0, .int .i64 y0, .int .i64 x1, .int .i64 y1] w (BoxPost w (boxB x0 y0 x1 y1)) := by
  have hx := B.lx
  have hy := B.ly
  have i1 : inR x0 (-1000) 1000 = true := inR_iff.2 (by omega)
  have i2 : inR x1 (x0 + 1) 1000 = true := inR_iff.2 (by omega)
  have i3 : inR y0 (-1000) 1000 = true := inR_iff.2 (by omega)
  have i4 : inR y1 (y0 + 1) 1000 = true := inR_iff.2 (by omega)
  have HM := Lib.hid (box_made B)
  have okB := boxB_ok B
  go_enter Try.func57, Try.ntmps57
  go_wp2_with (first | (go_at_call 81; refine (l01In_eq (by first | exact i1 | exact i2 | exact i3 | exact i4)).mono ?_; rintro e w' ⟨rfl, rfl⟩))
  obtain ⟨W0, hW⟩ : ∃ W0, (w.alloc (.cells #[.slice none 0 0] 25)).alloc (.cells #[.int .i64 1, .int .i64 0, .int .i64 x1, .int .i64 0, .int .i64 1, .int .i64 y1, .int .i64 (-1), .int .i64 0, .int .i64 (-x0), .int .i64 0, .int .i64 (-1), .int .i64 (-y0)] 36) = W0 := ⟨_, rfl⟩
  rw [hW]
  have T0 : Below w.heap.size w W0 := by rw [← hW]; exact (by repeat (first | exact bR | refine bO ?_ | refine bA ?_ | refine bS ?_ | refine bD ?_ | refine bN ?_))
  have X0 : Hid (W0.heap[w.heap.size]? = some (.cells #[.slice none 0 0] 25 (0, 0))) := Lib.hid (by rw [← hW]; exact (heap_old_at (by simp)).trans (heap_new_at (by simp) rfl))
  have L0 : RB (w.heap.size + 1) 36 W0 (some ⟨w.heap.size + 1, 0, none⟩) 4 (boxB x0 y0 x1 y1) := by rw [← hW]; exact ⟨rfl, .inr ⟨w.heap.size + 1, 4, _, rfl, by omega, heap_new_at (by simp) rfl, Nat.le_refl _, by unfold maxLen; omega, rfl, rfl⟩⟩
  clear hW
  refine (l05Make_eq (hs := boxB x0 y0 x1 y1) okB L0.r3 (by simp [boxB]) HM).mono ?_
  rintro e W1 ⟨A1, c1, rfl, L1, K⟩
  have T1 : Below w.heap.size w W1 := T0.trans (K.mono T0.size)
  have X1 := (K.block w.heap.size (Array.getElem?_eq_some_iff.1 X0.out).1).trans X0.out
  have L2 := L1.weak (B' := w.heap.size) T0.size
  clear L0 X0 T0 K L1
  obtain ⟨r, hr⟩ : ∃ r, w.heap.size = r := ⟨_, rfl⟩
  rw [hr] at X1 ⊢
  have x0' := cell_blk (j := 0) (v := .slice none 0 0) X1 rfl
  have f0 := frozen_blk (j := 0) X1
  have lr := (Array.getElem?_eq_some_iff.1 X1).1
  have HH : Hid (RB w.heap.size 36 (W1.setCell ⟨r, 0, none⟩ (.slice A1 (boxB x0 y0 x1 y1).length c1)) A1 c1 (boxB x0 y0 x1 y1) ∧ Below w.heap.size w (W1.setCell ⟨r, 0, none⟩ (.slice A1 (boxB x0 y0 x1 y1).length c1))) := Lib.hid ⟨L2.set_box X1 (by decide), T1.setCell (Nat.le_of_eq hr) _⟩
  clear L2 X1 T1
  go_wp2
  refine bodyPost_ret (v := .tuple #[.agg #[.slice A1 (boxB x0 y0 x1 y1).length c1], .bool true]) (by simp [results, Try.results57, go_sem, x0', f0, lr]) rfl ⟨A1, c1, rfl, HH.out⟩

set_option maxHeartbeats 2000000 in
theorem MakeSmall_any {c : Nat} {A : Option Addr} {bs : List Int} {n : Int} {w : World} (R : RY w A bs) (hl : bs.length ≤ 1048576) (hn : 0 ≤ n ∧ n ≤ 1000) :
    Calls Try.prog 28 #[.slice A bs.length c, .int .i64 n] w (fun e w' => ∃ (a b c d : Int) (A' : Option Addr) (c' : Nat), SmallBd a b c d ∧ e = .returned (.agg #[.slice A' (boxB (-a) (-b) c d).length c']) ∧ R3 36 w' A' c' (boxB (-a) (-b) c d) ∧ Below w.heap.size w w') := by
  go_enter Try.func28, Try.ntmps28
  go_wp2_with fail
  obtain ⟨W0, hW⟩ : ∃ W0, w.alloc (.cells #[.slice none 0 0] 25) = W0 := ⟨_, rfl⟩
  rw [hW]
  have T0 : Below w.heap.size w W0 := by rw [← hW]; exact (by repeat (first | exact bR | refine bO ?_ | refine bA ?_ | refine bS ?_ | refine bD ?_ | refine bN ?_))
  have X : Hid (W0.heap[w.heap.size]? = some (.cells #[.slice none 0 0] 25 (0, 0))) := Lib.hid (by rw [← hW]; exact heap_alloc_new _ _)
  have R0 := R.below T0
  have s0 : w.heap.size < W0.heap.size := (Array.getElem?_eq_some_iff.1 X.out).1
  clear hW R
  refine (l26New_any R0 hl hn).mono ?_
  rintro e W1 ⟨b, rfl, hb, C1, K⟩
  have R1 := R0.below K
  have T1 : Below w.heap.size w W1 := T0.trans (K.mono T0.size)
  have X1 : Hid (W1.heap[w.heap.size]? = some (.cells #[.slice none 0 0] 25 (0, 0))) := Lib.hid ((K.block _ s0).trans X.out)
  have hne : some w.heap.size ≠ some b := fun e => by injection e with e; omega
  have hge : w.heap.size ≤ b := by omega
  clear R0 K X T0
  go_wp2_with fail
  refine (below_small R1 C1 hl ⟨by omega, by omega⟩).mono ?_
  rintro e W2 ⟨z1, rfl, ⟨z1a, z1b⟩, C2, K⟩
  have R2 := R1.thru C1 K
  have T2 := gb_low T1 K hge (Nat.le_refl _)
  have X2 : Hid (W2.heap[w.heap.size]? = some (.cells #[.slice none 0 0] 25 (0, 0))) := Lib.hid ((K.block w.heap.size (Array.getElem?_eq_some_iff.1 X1.out).1 hne).trans X1.out)
  clear R1 C1 K X1 T1
  go_wp2_with fail
  refine (below_small R2 C2 hl ⟨by omega, by omega⟩).mono ?_
  rintro e W3 ⟨z2, rfl, ⟨z2a, z2b⟩, C3, K⟩
  have R3 := R2.thru C2 K
  have T3 := gb_low T2 K hge (Nat.le_refl _)
  have X3 : Hid (W3.heap[w.heap.size]? = some (.cells #[.slice none 0 0] 25 (0, 0))) := Lib.hid ((K.block w.heap.size (Array.getElem?_eq_some_iff.1 X2.out).1 hne).trans X2.out)
  clear R2 C2 K X2 T2
  go_wp2_with fail
  refine (below_small R3 C3 hl ⟨by omega, by omega⟩).mono ?_
  rintro e W4 ⟨z3, rfl, ⟨z3a, z3b⟩, C4, K⟩
  have R4 := R3.thru C3 K
  have T4 := gb_low T3 K hge (Nat.le_refl _)
  have X4 : Hid (W4.heap[w.heap.size]? = some (.cells #[.slice none 0 0] 25 (0, 0))) := Lib.hid ((K.block w.heap.size (Array.getElem?_eq_some_iff.1 X3.out).1 hne).trans X3.out)
  clear R3 C3 K X3 T3
  go_wp2_with fail
  refine (below_small R4 C4 hl ⟨by omega, by omega⟩).mono ?_
  rintro e W5 ⟨z4, rfl, ⟨z4a, z4b⟩, C5, K⟩
  have R5 := R4.thru C4 K
  have T5 := gb_low T4 K hge (Nat.le_refl _)
  have X5 : Hid (W5.heap[w.heap.size]? = some (.cells #[.slice none 0 0] 25 (0, 0))) := Lib.hid ((K.block w.heap.size (Array.getElem?_eq_some_iff.1 X4.out).1 hne).trans X4.out)
  clear R4 C4 K X4 T4
  go_wp2_with fail
  obtain ⟨c4, hc4⟩ : ∃ t : Int, 1 + z3 = t := ⟨_, rfl⟩
  obtain ⟨d4, hd4⟩ : ∃ t : Int, 1 + z4 = t := ⟨_, rfl⟩
  rw [hc4, hd4]
  have SB : SmallBd z1 z2 c4 d4 := ⟨by omega, by omega, by omega, by omega⟩
  clear hc4 hd4
  refine (spec_BoxRegion_any SB.box).mono ?_
  rintro e W6 ⟨A1, c1, rfl, L1, K⟩
  have T6 : Below w.heap.size w W6 := T5.trans (K.mono T5.size)
  have X6 := (K.block w.heap.size (Array.getElem?_eq_some_iff.1 X5.out).1).trans X5.out
  have s5 : w.heap.size < W5.heap.size := (Array.getElem?_eq_some_iff.1 X5.out).1
  have L2 := L1.weak (B' := w.heap.size) (Nat.le_of_lt s5)
  clear R5 C5 K X5 T5 L1 s5
  obtain ⟨r, hr⟩ : ∃ r, w.heap.size = r := ⟨_, rfl⟩
  rw [hr] at X6 ⊢
  have lr := (Array.getElem?_eq_some_iff.1 X6).1
  obtain ⟨bx, hbx⟩ : ∃ l, boxB (-z1) (-z2) c4 d4 = l := ⟨_, rfl⟩
  rw [hbx] at L2 ⊢
  have T7 : Below W6.heap.size W6 (W6.alloc (.cells #[.slice A1 bx.length c1] 25)) := by exact (by repeat (first | exact bR | refine bO ?_ | refine bA ?_ | refine bS ?_ | refine bD ?_ | refine bN ?_))
  have X7 : (W6.alloc (.cells #[.slice A1 bx.length c1] 25)).heap[r]? = some (.cells #[.slice none 0 0] 25 (0, 0)) := (T7.block r lr).trans X6
  have x7 := cell_blk (j := 0) (v := .slice none 0 0) X7 rfl
  have f7 := frozen_blk (j := 0) X7
  have l7 := (Array.getElem?_eq_some_iff.1 X7).1
  have HH : Hid (R3 36 ((W6.alloc (.cells #[.slice A1 bx.length c1] 25)).setCell ⟨r, 0, none⟩ (.slice A1 bx.length c1)) A1 c1 bx ∧ Below w.heap.size w ((W6.alloc (.cells #[.slice A1 bx.length c1] 25)).setCell ⟨r, 0, none⟩ (.slice A1 bx.length c1))) := Lib.hid ⟨((L2.below T7).set_box X7 (by decide)).r3, (T6.trans (T7.mono T6.size)).setCell (Nat.le_of_eq hr) _⟩
  clear L2 X6 X7 T6 T7 lr
  go_wp2
  refine bodyPost_ret (v := .agg #[.slice A1 bx.length c1]) (by simp [results, Try.results28, go_sem, x7, f7, l7]) rfl ⟨z1, z2, c4, d4, A1, c1, SB, by rw [hbx], by rw [hbx]; exact HH.out.1, HH.out.2⟩
end Go.Proofs.Ytabmfaamadbefaa
