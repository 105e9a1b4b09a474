/- What the reference draws for regions: whole spots, maps, areas. Condition: the code has at most 2^20 bytes. -/
import Derived.Test.YtabmfaamadbefaaCn
import Derived.Test.YtabmfaamadbefaaGl
import Derived.Test.YtabmfaamadbefaaHf
import Derived.Test.YtabmfaamadbefaaMk
import Derived.Test.YtabmfaamadbefaaMj
set_option linter.unusedVariables false
set_option linter.unusedSimpArgs false
set_option linter.unusedSectionVars false
namespace Go.Proofs.Ytabmfaamadbefaa
open Go.RowKit

theorem RY.set3 {w : World} {A : Option Addr} {bs : List Int} {b i : Nat} {v : Value} {x y z : Int} {T : TypeId} (h : RY w A bs) (hb : w.heap[b]? = some (.cells #[.int .i64 x, .int .i64 y, .int .i64 z] T (0, 0))) : RY (w.setCell ⟨b, i, none⟩ v) A bs := fun k hk => by
  obtain ⟨g, o, h1, h2, h3, h4⟩ := h k hk
  have hne : g ≠ b := by
    rintro rfl
    have q : (#[Value.int .i64 x, .int .i64 y, .int .i64 z] : Array Value)[o + k]? = some (.int .u8 bs[k]) := by simpa [World.cell?, hb] using h3
    have hl := (Array.getElem?_eq_some_iff.1 q).1
    simp at hl
    have : o + k = 0 ∨ o + k = 1 ∨ o + k = 2 := by omega
    rcases this with e | e | e <;> rw [e] at q <;> simp at q
  refine ⟨g, o, h1, by simpa using h2, ?_, h4⟩
  rw [← h3]
  simp [World.cell?, heap_setCell_other w ⟨b, i, none⟩ g v hne]

set_option maxHeartbeats 2000000 in
theorem MakeWhole_any {c : Nat} {A : Option Addr} {bs : List Int} {n : Int} {w : World} (R : RY w A bs) (hl : bs.length ≤ 1048576) (hn : 0 ≤ n ∧ n ≤ 1000) :
    Calls Try.prog 12 #[.slice A bs.length c, .int .i64 n] w (fun e w' => ∃ x y : Int, e = .returned (.agg #[.int .i64 x, .int .i64 y, .int .i64 1]) ∧ (-40 ≤ x ∧ x ≤ 40) ∧ (-40 ≤ y ∧ y ≤ 40) ∧ Below w.heap.size w w') := by
  go_enter Try.func12, Try.ntmps12
  go_wp2_with fail
  obtain ⟨W0, hW⟩ : ∃ W0, w.alloc (.cells #[.int .i64 0, .int .i64 0, .int .i64 0] 31) = W0 := ⟨_, rfl⟩
  rw [hW]
  have T0 : Below w.heap.size w W0 := by rw [← hW]; exact (by repeat (first | exact bR | refine bO ?_ | refine bA ?_ | refine bS ?_ | refine bD ?_ | refine bN ?_))
  have X : Hid (W0.heap[w.heap.size]? = some (.cells #[.int .i64 0, .int .i64 0, .int .i64 0] 31 (0, 0))) := Lib.hid (by rw [← hW]; exact heap_alloc_new _ _)
  have R0 := R.below T0
  have s0 : w.heap.size < W0.heap.size := (Array.getElem?_eq_some_iff.1 X.out).1
  clear hW R
  refine (l26New_any R0 hl hn).mono ?_
  rintro e W1 ⟨b, rfl, hb, C, K⟩
  have R1 := R0.below K
  have T1 : Below w.heap.size w W1 := T0.trans (K.mono T0.size)
  have X1 : Hid (W1.heap[w.heap.size]? = some (.cells #[.int .i64 0, .int .i64 0, .int .i64 0] 31 (0, 0))) := Lib.hid ((K.block _ s0).trans X.out)
  have hne : some w.heap.size ≠ some b := fun e => by injection e with e; omega
  have hge : w.heap.size ≤ b := by omega
  clear R0 K X T0
  go_wp2_with fail
  refine (below_small R1 C hl ⟨by omega, by omega⟩).mono ?_
  rintro e W2 ⟨x, rfl, ⟨hx0, hx1⟩, C2, K⟩
  have R2 := R1.thru C K
  have T2 := gb_low T1 K hge (Nat.le_refl _)
  have X2 : Hid (W2.heap[w.heap.size]? = some (.cells #[.int .i64 0, .int .i64 0, .int .i64 0] 31 (0, 0))) := Lib.hid ((K.block w.heap.size (Array.getElem?_eq_some_iff.1 X1.out).1 hne).trans X1.out)
  clear R1 C K X1 T1
  go_wp2_with fail
  refine (below_small R2 C2 hl ⟨by omega, by omega⟩).mono ?_
  rintro e W3 ⟨y, rfl, ⟨hy0, hy1⟩, C3, K⟩
  have T3 := gb_low T2 K hge (Nat.le_refl _)
  have X3 := (K.block w.heap.size (Array.getElem?_eq_some_iff.1 X2.out).1 hne).trans X2.out
  clear R2 C2 K X2 T2
  obtain ⟨r, hr⟩ : ∃ r, w.heap.size = r := ⟨_, rfl⟩
  rw [hr] at X3 ⊢
  have c0 := cell_blk (j := 0) (v := .int .i64 0) X3 rfl
  have c1 := cell_blk (j := 1) (v := .int .i64 0) X3 rfl
  have c2 := cell_blk (j := 2) (v := .int .i64 0) X3 rfl
  have f0 := frozen_blk (j := 0) X3
  have f1 := frozen_blk (j := 1) X3
  have f2 := frozen_blk (j := 2) X3
  have lr := (Array.getElem?_eq_some_iff.1 X3).1
  go_wp2
  refine bodyPost_ret (v := .agg #[.int .i64 (x - 40), .int .i64 (y - 40), .int .i64 1]) (by simp [results, Try.results12, go_sem, c0, c1, c2, f0, f1, f2, lr]) rfl ⟨x - 40, y - 40, rfl, ⟨by omega, by omega⟩, ⟨by omega, by omega⟩, by rw [← hr]; exact ((T3.setCell (Nat.le_refl _) _).setCell (Nat.le_refl _) _).setCell (Nat.le_refl _) _⟩

theorem ib4 {w : World} {g : Nat} {a b e f : Int} (h : w.heap[g]? = some (.cells #[.int .i64 a, .int .i64 b, .int .i64 e, .int .i64 f] 3 (0, 0))) : IB g w [a, b, e, f] := ⟨_, h, rfl, fun j hj => by
  have hj4 : j < 4 := hj
  have : j = 0 ∨ j = 1 ∨ j = 2 ∨ j = 3 := by omega
  rcases this with rfl | rfl | rfl | rfl <;> rfl⟩
theorem pick4 : ∀ (k : Nat) (hk : k < ([1, 2, 4, 5] : List Int).length), 1 ≤ ([1, 2, 4, 5] : List Int)[k] ∧ ([1, 2, 4, 5] : List Int)[k] ≤ 5 := by
  intro k hk
  have hk4 : k < 4 := hk
  have : k = 0 ∨ k = 1 ∨ k = 2 ∨ k = 3 := by omega
  rcases this with rfl | rfl | rfl | rfl <;> simp
def MapPost (b : Nat) (A : Option Addr) (c : Nat) (bs : List Int) (w : World) (e : Ending) (w' : World) : Prop := ∃ (a1 b1 e1 f1 q : Int) (g c' : Nat), e = .returned (.tuple #[.slice (some ⟨g, 0, none⟩) 4 c', .int .i64 q]) ∧ IB g w' [a1, b1, e1, f1] ∧ (-5 ≤ a1 ∧ a1 ≤ 5) ∧ (-5 ≤ b1 ∧ b1 ≤ 5) ∧ (-5 ≤ e1 ∧ e1 ≤ 5) ∧ (-5 ≤ f1 ∧ f1 ≤ 5) ∧ (1 ≤ q ∧ q ≤ 5) ∧ a1 * f1 - b1 * e1 ≠ 0 ∧ w.grownBy w' (some b)
end Go.Proofs.Ytabmfaamadbefaa
