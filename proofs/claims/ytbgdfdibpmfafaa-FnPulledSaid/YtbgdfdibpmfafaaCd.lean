/- What the reference draws for regions: whole spots, maps, areas. Condition: the code has at most 2^20 bytes. -/
import Derived.Test.YtbgdfdibpmfafaaCn
import Derived.Test.YtbgdfdibpmfafaaFp
import Derived.Test.YtbgdfdibpmfafaaHf
import Derived.Test.YtbgdfdibpmfafaaMk
import Derived.Test.YtbgdfdibpmfafaaMj
set_option linter.unusedVariables false
set_option linter.unusedSimpArgs false
set_option linter.unusedSectionVars false
namespace Go.Proofs.Ytbgdfdibpmfafaa
open Go.RowKit

theorem RY.set3 {w : World} {A : Option Addr} {bs : List Int} {b i : Nat} {v : Value} {x y z : Int} {T : TypeId} (h : RY w A bs) (hb : w.heap[b]? = some (.cells #[.int .i64 x, .int .i64 y, .int .i64 z] T (0, 0))) : RY (w.setCell ⟨b, i, none⟩ v) A bs := fun k hk => by
  obtain ⟨g, o, h1, h2, h3, h4⟩ := h k hk
  have hne : g ≠ b := by
    rintro rfl
    have q : (#[Value.int .i64 x, .int .i64 y, .int .i64 z] : Array Value)[o + k]? = some (.int .u8 bs[k]) := by simpa [World.cell?, hb] using h3
    have hl := (Array.getElem?_eq_some_iff.1 q).1
    simp at hl
    have : o + k = 0 ∨ o + k = 1 ∨ o + k = 2 := by omega
    rcases this with e | e | e <;> rw [e] at q <;> simp at q
  refine ⟨g, o, h1, by simpa using h2, ?_, h4⟩
  rw [← h3]
  simp [World.cell?, heap_setCell_other w ⟨b, i, none⟩ g v hne]

set_option maxHeartbeats 2000000 in
theorem MakeWhole_any {c : Nat} {A : Option Addr} {bs : List Int} {n : Int} {w : World} (R : RY w A bs) (hl : bs.length ≤ 1048576) (hn : 0 ≤ n ∧ n ≤ 1000) :
    Calls Try.prog 10 #[.slice A bs.length c, .int .i64 n] w (fun e w' => ∃ x y : Int, e = .returned (.agg #[.int .i64 x, .int .i64 y, .int .i64 1]) ∧ (-40 ≤ x ∧ x ≤ 40) ∧ (-40 ≤ y ∧ y ≤ 40) ∧ Below w.heap.size w w') := by
  go_enter Try.func10, Try.ntmps10
  go_wp2_with fail
  obtain ⟨W0, hW⟩ : ∃ W0, w.alloc (.cells #[.int .i64 0, .int .i64 0, .int .i64 0] 34) = W0 := ⟨_, rfl⟩
  rw [hW]
  have T0 : Below w.heap.size w W0 := by rw [← hW]; exact (by repeat (first | exact bR | refine bO ?_ | refine bA ?_ | refine bS ?_ | refine bD ?_ | refine bN ?_))
  have X : Hid (W0.heap[w.heap.size]? = some (.cells #[.int .i64 0, .int .i64 0, .int .i64 0] 34 (0, 0))) := Lib.hid (by rw [← hW]; exact heap_alloc_new _ _)
  have R0 := R.below T0
  have s0 : w.heap.size < W0.heap.size := (Array.getElem?_eq_some_iff.1 X.out).1
  clear hW R
  refine (l26New_any R0 hl hn).mono ?_
  rintro e W1 ⟨b, rfl, hb, C, K⟩
  have R1 := R0.below K
  have T1 : Below w.heap.size w W1 := T0.trans (K.mono T0.size)
  have X1 : Hid (W1.heap[w.heap.size]? = some (.cells #[.int .i64 0, .int .i64 0, .int .i64 0] 34 (0, 0))) := Lib.hid ((K.block _ s0).trans X.out)
  have hne : some w.heap.size ≠ some b := fun e => by injection e with e; omega
  have hge : w.heap.size ≤ b := by omega
  clear R0 K X T0
  go_wp2_with fail
  refine (below_small R1 C hl ⟨by omega, by omega⟩).mono ?_
  rintro e W2 ⟨x, rfl, ⟨hx0, hx1⟩, C2, K⟩
  have R2 := R1.thru C K
  have T2 := gb_low T1 K hge (Nat.le_refl _)
  have X2 : Hid (W2.heap[w.heap.size]? = some (.cells #[.int .i64 0, .int .i64 0, .int .i64 0] 34 (0, 0))) := Lib.hid ((K.block w.heap.size (Array.getElem?_eq_some_iff.1 X1.out).1 hne).trans X1.out)
  clear R1 C K X1 T1
  go_wp2_with fail
  refine (below_small R2 C2 hl ⟨by omega, by omega⟩).mono ?_
  rintro e W3 ⟨y, rfl, ⟨hy0, hy1⟩, C3, K⟩
  have T3 := gb_low T2 K hge (Nat.le_refl _)
  have X3 := (K.block w.heap.size (Array.getElem?_eq_some_iff.1 X2.out).1 hne).trans X2.out
  clear R2 C2 K X2 T2
  obtain ⟨r, hr⟩ : ∃ r, w.heap.size = r := ⟨_, rfl⟩
  rw [hr] at X3 ⊢
  have c0 := cell_blk (j := 0) (v := .int .i64 0) X3 rfl
  have c1 := cell_blk (j := 1) (v := .int .i64 0) X3 rfl
  have c2 := cell_blk (j := 2) (v := .int .i64 0) X3 rfl
  have f0 := frozen_blk (j := 0) X3
  have f1 := frozen_blk (j := 1) X3
  have f2 := frozen_blk (j := 2) X3
  have lr := (Array.getElem?_eq_some_iff.1 X3).1
  go_wp2
  refine bodyPost_ret (v := .agg #[.int .i64 (x - 40), .int .i64 (y - 40), .int .i64 1]) (by simp [results, Try.results10, go_sem, c0, c1, c2, f0, f1, f2, lr]) rfl ⟨x - 40, y - 40, rfl, ⟨by omega, by omega⟩, ⟨by omega, by omega⟩, by rw [← hr]; exact ((T3.setCell (Nat.le_refl _) _).setCell (Nat.le_refl _) _).setCell (Nat.le_refl _) _⟩

set_option maxHeartbeats 2000000 in
theorem l01Pick_any {b c c2 : Nat} {A A2 : Option Addr} {bs xs : List Int} {w : World} (R : RY w A bs) (C : CurE b A c bs w) (hl : bs.length ≤ 1048576) (X : RI w A2 xs) (hx : 0 < xs.length ∧ xs.length ≤ 256) (hne : ∀ g o, A2 = some ⟨g, o, none⟩ → g ≠ b) :
    Calls Try.prog 46 #[.pointer (some ⟨b, 0, none⟩), .slice A2 xs.length c2] w (fun e w' => ∃ k, ∃ hk : k < xs.length, e = .returned (.int .i64 xs[k]) ∧ CurE b A c bs w' ∧ RY w' A bs ∧ w.grownBy w' (some b)) := by
  go_enter Try.func46, Try.ntmps46
  go_wp2_with fail
  refine (below_small R C hl ⟨by omega, by omega⟩).mono ?_
  rintro e W1 ⟨x, rfl, ⟨hx0, hx1⟩, C1, K⟩
  have R1 := R.thru C K
  obtain ⟨k, rfl⟩ := Int.eq_ofNat_of_zero_le hx0
  have hk : k < xs.length := by omega
  obtain ⟨g, o, rfl, hg, z0⟩ := X k hk
  have z1 : W1.cell? ⟨g, o + k, none⟩ = some (.int .i64 xs[k]) := (World.cell?_of_block (K.block g hg (fun e => hne g o rfl (by injection e)))).trans z0
  have hg1 : g < W1.heap.size := Nat.lt_of_lt_of_le hg K.size
  clear R C X z0 hne
  go_wp2
  go_ret
  exact ⟨k, hk, rfl, C1, R1, K⟩

theorem ib4 {w : World} {g : Nat} {a b e f : Int} (h : w.heap[g]? = some (.cells #[.int .i64 a, .int .i64 b, .int .i64 e, .int .i64 f] 3 (0, 0))) : IB g w [a, b, e, f] := ⟨_, h, rfl, fun j hj => by
  have hj4 : j < 4 := hj
  have : j = 0 ∨ j = 1 ∨ j = 2 ∨ j = 3 := by omega
  rcases this with rfl | rfl | rfl | rfl <;> rfl⟩
theorem pick4 : ∀ (k : Nat) (hk : k < ([1, 2, 4, 5] : List Int).length), 1 ≤ ([1, 2, 4, 5] : List Int)[k] ∧ ([1, 2, 4, 5] : List Int)[k] ≤ 5 := by
  intro k hk
  have hk4 : k < 4 := hk
  have : k = 0 ∨ k = 1 ∨ k = 2 ∨ k = 3 := by omega
  rcases this with rfl | rfl | rfl | rfl <;> simp
def MapPost (b : Nat) (A : Option Addr) (c : Nat) (bs : List Int) (w : World) (e : Ending) (w' : World) : Prop := ∃ (a1 b1 e1 f1 q : Int) (g c' : Nat), e = .returned (.tuple #[.slice (some ⟨g, 0, none⟩) 4 c', .int .i64 q]) ∧ IB g w' [a1, b1, e1, f1] ∧ (-5 ≤ a1 ∧ a1 ≤ 5) ∧ (-5 ≤ b1 ∧ b1 ≤ 5) ∧ (-5 ≤ e1 ∧ e1 ≤ 5) ∧ (-5 ≤ f1 ∧ f1 ≤ 5) ∧ (1 ≤ q ∧ q ≤ 5) ∧ a1 * f1 - b1 * e1 ≠ 0 ∧ w.grownBy w' (some b)
set_option maxRecDepth 100000 in
set_option maxHeartbeats 4000000 in
theorem l07Map_any {b c : Nat} {A : Option Addr} {bs : List Int} {w : World} (R : RY w A bs) (C : CurE b A c bs w) (hl : bs.length ≤ 1048576) :
    Calls Try.prog 23 #[.pointer (some ⟨b, 0, none⟩)] w (MapPost b A c bs w) := by
  have hbl := C.lt
  go_enter Try.func23, Try.ntmps23
  go_wp2_with fail
  obtain ⟨W0, hW⟩ : ∃ W0, w.alloc (.cells #[.int .i64 1, .int .i64 2, .int .i64 4, .int .i64 5] 3) = W0 := ⟨_, rfl⟩
  rw [hW]
  have T0 : Below w.heap.size w W0 := by rw [← hW]; exact (by repeat (first | exact bR | refine bO ?_ | refine bA ?_ | refine bS ?_ | refine bD ?_ | refine bN ?_))
  have X : RI W0 (some ⟨w.heap.size, 0, none⟩) [1, 2, 4, 5] := (ib4 (by rw [← hW]; exact heap_alloc_new _ _)).ri
  have R0 := R.below T0
  have C0 := C.below T0
  have G0 : w.grownBy W0 (some b) := gb_below T0
  clear hW R C T0
  refine (l01Pick_any (xs := [1, 2, 4, 5]) R0 C0 hl X ⟨by decide, by decide⟩ (fun g o e => by injection e with e; injection e with e; omega)).mono ?_
  rintro e W1 ⟨k, hk, rfl, C1, R1, K⟩
  have G1 := gb_trans G0 K
  have hq := pick4 k hk
  obtain ⟨q, hqe⟩ : ∃ q, ([1, 2, 4, 5] : List Int)[k] = q := ⟨_, rfl⟩
  rw [hqe] at hq ⊢
  obtain ⟨hq1, hq2⟩ := hq
  clear R0 C0 X G0 K hqe
  go_wp2_with fail
  refine (below_small R1 C1 hl ⟨by omega, by omega⟩).mono ?_
  rintro e W2 ⟨x1, rfl, ⟨h10, h11⟩, C2, K⟩
  have R2 := R1.thru C1 K
  have G2 := gb_trans G1 K
  clear R1 C1 G1 K
  go_wp2_with fail
  refine (below_small R2 C2 hl ⟨by omega, by omega⟩).mono ?_
  rintro e W3 ⟨x2, rfl, ⟨h20, h21⟩, C3, K⟩
  have R3 := R2.thru C2 K
  have G3 := gb_trans G2 K
  clear R2 C2 G2 K
  go_wp2_with fail
  refine (below_small R3 C3 hl ⟨by omega, by omega⟩).mono ?_
  rintro e W4 ⟨x3, rfl, ⟨h30, h31⟩, C4, K⟩
  have R4 := R3.thru C3 K
  have G4 := gb_trans G3 K
  clear R3 C3 G3 K
  go_wp2_with fail
  refine (below_small R4 C4 hl ⟨by omega, by omega⟩).mono ?_
  rintro e W5 ⟨x4, rfl, ⟨h40, h41⟩, C5, K⟩
  have G5 := gb_trans G4 K
  clear R4 C4 G4 K C5
  go_wp2
  obtain ⟨a1, ha1⟩ : ∃ z : Int, q - x1 = z := ⟨_, rfl⟩
  obtain ⟨b1, hb1⟩ : ∃ z : Int, x2 - 1 = z := ⟨_, rfl⟩
  obtain ⟨e1, he1⟩ : ∃ z : Int, x3 - 1 = z := ⟨_, rfl⟩
  obtain ⟨f1, hf1⟩ : ∃ z : Int, q - x4 = z := ⟨_, rfl⟩
  rw [ha1, hb1, he1, hf1]
  have ka : -5 ≤ a1 ∧ a1 ≤ 5 := by omega
  have kb : -5 ≤ b1 ∧ b1 ≤ 5 := by omega
  have ke : -5 ≤ e1 ∧ e1 ≤ 5 := by omega
  have kf : -5 ≤ f1 ∧ f1 ≤ 5 := by omega
  clear ha1 hb1 he1 hf1 h10 h11 h20 h21 h30 h31 h40 h41
  have m1 := mul_bd (A := 5) (B := 5) ka kf
  have m2 := mul_bd (A := 5) (B := 5) kb ke
  obtain ⟨W6, hW⟩ : ∃ W6, W5.alloc (.cells #[.int .i64 a1, .int .i64 b1, .int .i64 e1, .int .i64 f1] 3) = W6 := ⟨_, rfl⟩
  rw [hW]
  have T6 : Below W5.heap.size W5 W6 := by rw [← hW]; exact (by repeat (first | exact bR | refine bO ?_ | refine bA ?_ | refine bS ?_ | refine bD ?_ | refine bN ?_))
  have X6 := Lib.hid (show W6.heap[W5.heap.size]? = some (.cells #[.int .i64 a1, .int .i64 b1, .int .i64 e1, .int .i64 f1] 3 (0, 0)) by rw [← hW]; exact heap_alloc_new _ _)
  have G6 := gb_trans G5 (gb_below (o := some b) T6)
  clear hW T6 G5
  generalize W5.heap.size = g6 at X6 ⊢
  obtain ⟨c0, c1, c2, c3, lx⟩ := cb4 X6
  ((first | (with_reducible refine wp_region_calm2 (by kernel_rfl) (by kernel_rfl) ?_) | refine wp_region_calm (by kernel_rfl) (by kernel_rfl) ?_); (repeat (go_big_quiet_step (first | fail))); refine wpQuiet_nil ?_; rintro _ ⟨y, rfl⟩)
  clear c0 c1 c2 c3 lx
  obtain ⟨W7, hW⟩ : ∃ Z, ov W6 y = Z := ⟨_, rfl⟩
  have X7 : W7.heap[g6]? = some (.cells #[.int .i64 a1, .int .i64 b1, .int .i64 e1, .int .i64 f1] 3 (0, 0)) := by rw [← hW]; exact ov_blk X6.out
  have G7 : w.grownBy W7 (some b) := by rw [← hW]; exact gb_ov y G6
  rw [hW]
  clear hW X6 G6
  by_cases hz : a1 * f1 - b1 * e1 = 0
  · go_wp2
    refine bodyPost_ret (v := .tuple #[.slice (some ⟨W7.heap.size, 0, none⟩) 4 4, .int .i64 q]) (by simp [results, Try.results23, go_sem]) rfl ?_
    refine ⟨q, 0, 0, q, q, W7.heap.size, 4, rfl, ib4 (heap_alloc_new _ _), ⟨by omega, by omega⟩, ⟨by omega, by omega⟩, ⟨by omega, by omega⟩, ⟨by omega, by omega⟩, ⟨hq1, hq2⟩, ?_, gb_trans G7 (gb_below (by repeat (first | exact bR | refine bO ?_ | refine bA ?_ | refine bS ?_ | refine bD ?_ | refine bN ?_)))⟩
    have := Int.mul_pos (show 0 < q by omega) (show 0 < q by omega)
    omega
  · go_wp2
    refine bodyPost_ret (v := .tuple #[.slice (some ⟨g6, 0, none⟩) 4 4, .int .i64 q]) (by simp [results, Try.results23, go_sem]) rfl ?_
    exact ⟨a1, b1, e1, f1, q, g6, 4, rfl, ib4 X7, ka, kb, ke, kf, ⟨hq1, hq2⟩, hz, G7⟩
set_option maxHeartbeats 2000000 in
theorem MakeMap_any {c : Nat} {A : Option Addr} {bs : List Int} {n : Int} {w : World} (R : RY w A bs) (hl : bs.length ≤ 1048576) (hn : 0 ≤ n ∧ n ≤ 1000) :
    Calls Try.prog 7 #[.slice A bs.length c, .int .i64 n] w (fun e w' => ∃ (a1 b1 e1 f1 q : Int) (g c' : Nat), e = .returned (.tuple #[.slice (some ⟨g, 0, none⟩) 4 c', .int .i64 q]) ∧ IB g w' [a1, b1, e1, f1] ∧ (-5 ≤ a1 ∧ a1 ≤ 5) ∧ (-5 ≤ b1 ∧ b1 ≤ 5) ∧ (-5 ≤ e1 ∧ e1 ≤ 5) ∧ (-5 ≤ f1 ∧ f1 ≤ 5) ∧ (1 ≤ q ∧ q ≤ 5) ∧ a1 * f1 - b1 * e1 ≠ 0 ∧ Below w.heap.size w w') := by
  go_enter Try.func7, Try.ntmps7
  go_wp2_with fail
  refine (l26New_any R hl hn).mono ?_
  rintro e W1 ⟨b, rfl, hb, C, K⟩
  have R1 := R.below K
  clear R
  go_wp2_with fail
  refine (l07Map_any R1 C hl).mono ?_
  rintro e W2 ⟨a1, b1, e1, f1, q, g, c', rfl, I, ka, kb, ke, kf, kq, kd, G⟩
  have T2 := gb_low K G hb (Nat.le_refl _)
  clear R1 C K G
  go_wp2
  refine bodyPost_ret (v := .tuple #[.slice (some ⟨g, 0, none⟩) 4 c', .int .i64 q]) (by simp [results, Try.results7, go_sem]) rfl ?_
  exact ⟨a1, b1, e1, f1, q, g, c', rfl, I, ka, kb, ke, kf, kq, kd, T2⟩
end Go.Proofs.Ytbgdfdibpmfafaa
