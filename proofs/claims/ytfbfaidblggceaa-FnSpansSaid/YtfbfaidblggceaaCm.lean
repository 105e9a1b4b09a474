/- What the reference draws: numbers, fractions, spans. Condition: the code has at most 2^20 bytes. -/
import Derived.Test.YtfbfaidblggceaaCz
import Derived.Test.YtfbfaidblggceaaSq
set_option linter.unusedVariables false
set_option linter.unusedSimpArgs false
set_option linter.unusedSectionVars false
namespace Go.Proofs.Ytfbfaidblggceaa
open Go.RowKit

theorem RY.ov {w : World} {A : Option Addr} {bs : List Int} (h : RY w A bs) (x : More) : RY (ov w x) A bs := h.below (below_ov w x (Below.refl _ _) (Nat.le_refl _))
theorem CurE.ov {b c : Nat} {A : Option Addr} {bs : List Int} {w : World} (h : CurE b A c bs w) (x : More) : CurE b A c bs (ov w x) := h.below (below_ov w x (Below.refl _ _) (Nat.le_refl _))
theorem CurE.lt {b c : Nat} {A : Option Addr} {bs : List Int} {w : World} (h : CurE b A c bs w) : b < w.heap.size := by
  obtain ⟨i, h0, hi, hh⟩ := h
  exact (Array.getElem?_eq_some_iff.1 hh).1
theorem CurE.set_ {b c r i : Nat} {A : Option Addr} {bs : List Int} {w : World} {v : Value} (h : CurE b A c bs w) (hne : some r ≠ some b) : CurE b A c bs (w.setCell ⟨r, i, none⟩ v) := by
  obtain ⟨k, h0, hi, hh⟩ := h
  exact ⟨k, h0, hi, (heap_setCell_other _ ⟨r, i, none⟩ _ _ (fun e => hne (by rw [e]))).trans hh⟩
theorem RY.set2 {w : World} {A : Option Addr} {bs : List Int} {b i : Nat} {v : Value} {x y : Int} {T : TypeId} (h : RY w A bs) (hb : w.heap[b]? = some (.cells #[.int .i64 x, .int .i64 y] T (0, 0))) : RY (w.setCell ⟨b, i, none⟩ v) A bs := fun k hk => by
  obtain ⟨g, o, h1, h2, h3, h4⟩ := h k hk
  have hne : g ≠ b := by
    rintro rfl
    have q : (#[Value.int .i64 x, .int .i64 y] : Array Value)[o + k]? = some (.int .u8 bs[k]) := by simpa [World.cell?, hb] using h3
    have hl := (Array.getElem?_eq_some_iff.1 q).1
    simp at hl
    have : o + k = 0 ∨ o + k = 1 := by omega
    rcases this with e | e <;> rw [e] at q <;> simp at q
  refine ⟨g, o, h1, by simpa using h2, ?_, h4⟩
  rw [← h3]
  simp [World.cell?, heap_setCell_other w ⟨b, i, none⟩ g v hne]
theorem gb_new {w wr : World} {o : Option Nat} {r i : Nat} {v : Value} (h : w.grownBy wr o) (hr : w.heap.size ≤ r) : w.grownBy (wr.setCell ⟨r, i, none⟩ v) o :=
  ⟨h.os, h.tape, h.output, by simpa using h.size, fun k hk hne => (heap_setCell_other _ _ _ _ (by show k ≠ r; omega)).trans (h.block k hk hne)⟩
theorem set2a {w : World} {b : Nat} {T : TypeId} {a0 a1 v : Value} (h : w.heap[b]? = some (.cells #[a0, a1] T (0, 0))) : (w.setCell ⟨b, 0, none⟩ v).heap[b]? = some (.cells #[v, a1] T (0, 0)) := by
  have := heap_setCell_same w b 0 _ T v h
  simpa using this
theorem ratOf_small {n d p q M : Int} (hM : 0 ≤ M ∧ M ≤ 1000000) (hn : -M ≤ n ∧ n ≤ M) (hd : 0 < d ∧ d ≤ 1000) (h : ratOf n d = (p, q)) : ratioOk p q = true ∧ (-M ≤ p ∧ p ≤ M) ∧ (0 < q ∧ q ≤ 1000) ∧ p * d = n * q := by
  obtain ⟨g, a, b, e, g0, ea, eb, qa, qb, b0, hc⟩ := gcd2_parts (n := n) hd.1
  have ha := mul_le_bd (a := a) (M := M) g0 (by omega) (by rw [← ea]; exact hn)
  have hb := mul_le_bd (a := b) (M := 1000) g0 (by omega) (by rw [← eb]; omega)
  have ok : ratioOk a b = true := (ratioOk_parts b0 hc (by omega)).2 ⟨by omega, by omega, by omega⟩
  rw [ratOf_red e qa qb, if_pos ok] at h
  injection h with h1 h2
  subst h1 h2
  refine ⟨ok, ha, ⟨b0, hb.2⟩, ?_⟩
  rw [ea, eb]
  grind
theorem span_up {p q z r s : Int} (hz : 0 ≤ z ∧ z < 60) (ok : ratioOk p q = true) (hp : -200 ≤ p ∧ p ≤ 200) (hq : 0 < q ∧ q ≤ 1000) (h : ratOf (p + z) q = (r, s)) : spanOk p q r s = true ∧ (-1000 ≤ r ∧ r ≤ 1000) ∧ (0 < s ∧ s ≤ 1000) := by
  obtain ⟨k1, k2, k3, k4⟩ := ratOf_small (M := 1000) ⟨by omega, by omega⟩ ⟨by omega, by omega⟩ hq h
  refine ⟨(spanOk_iff ok k1).2 ?_, k2, k3⟩
  rw [k4]
  exact Int.mul_le_mul_of_nonneg_right (by omega) (by omega)

set_option maxHeartbeats 2000000 in
theorem l26New_any {c : Nat} {A : Option Addr} {bs : List Int} {n : Int} {w : World} (R : RY w A bs) (hl : bs.length ≤ 1048576) (hn : 0 ≤ n ∧ n ≤ 1000) :
    Calls Try.prog 35 #[.slice A bs.length c, .int .i64 n] w (NewPost A c bs w) := by
  have hn1 := hn.1
  have hn2 := hn.2
  go_enter Try.func35, Try.ntmps35
  go_wp2_with fail
  refine (l01New_any R hl).mono ?_
  rintro e W1 ⟨b, rfl, hb, C, K⟩
  have R1 := R.below K
  clear R
  go_wp2
  go_loopw [6] (fun i wr => ∃ k : Nat, (k : Int) ≤ n ∧ i = .int .i64 k ∧ CurE b A c bs wr ∧ RY wr A bs ∧ Below w.heap.size w wr) (fun i _ => n.toNat - (intOf i).toNat)
  case atStart => exact ⟨0, hn1, rfl, C, R1, K⟩
  case round =>
    obtain ⟨k, hk, rfl, C1, R2, hb1⟩ := hrel
    by_cases hlt : (k : Int) < n
    · go_wp2_with fail
      refine (l01Byte_any R2 C1 hl).mono ?_
      rintro e W2 ⟨x, rfl, hx, C2, K2⟩
      have R3 := R2.thru C1 K2
      have hb2 := gb_low hb1 K2 hb (Nat.le_refl _)
      clear C C1 R1 R2
      go_wp2
      go_roundw
      case rel => exact ⟨k + 1, by omega, by go_num, C2, R3, hb2⟩
      case measure => simp [intOf]; omega
    · go_wp2
      go_ret
      exact ⟨b, rfl, hb, C1, hb1⟩

set_option maxHeartbeats 2000000 in
theorem MakeNum_any {c : Nat} {A : Option Addr} {bs : List Int} {n : Int} {w : World} (R : RY w A bs) (hl : bs.length ≤ 1048576) (hn : 0 ≤ n ∧ n ≤ 1000) :
    Calls Try.prog 15 #[.slice A bs.length c, .int .i64 n] w (fun e w' => ∃ x : Int, e = .returned (.int .i64 x) ∧ (0 ≤ x ∧ x < 65536) ∧ Below w.heap.size w w') := by
  go_enter Try.func15, Try.ntmps15
  go_wp2_with fail
  refine (l26New_any R hl hn).mono ?_
  rintro e W1 ⟨b, rfl, hb, C, K⟩
  have R1 := R.below K
  clear R
  go_wp2_with fail
  refine (l01Byte_any R1 C hl).mono ?_
  rintro e W2 ⟨x, rfl, ⟨hx0, hx1⟩, C2, K2⟩
  have R2 := R1.thru C K2
  have T2 := gb_low K K2 hb (Nat.le_refl _)
  clear R1 C K K2
  go_wp2_with fail
  refine (l01Byte_any R2 C2 hl).mono ?_
  rintro e W3 ⟨y, rfl, ⟨hy0, hy1⟩, C3, K3⟩
  have T3 := gb_low T2 K3 hb (Nat.le_refl _)
  clear R2 C2 T2 K3
  go_wp2
  go_ret
  exact ⟨_, rfl, ⟨by omega, by omega⟩, T3⟩

def RatPost (w : World) (e : Ending) (w' : World) : Prop := ∃ p q : Int, e = .returned (.agg #[.int .i64 p, .int .i64 q]) ∧ ratioOk p q = true ∧ (-200 ≤ p ∧ p ≤ 200) ∧ (0 < q ∧ q ≤ 1000)
set_option maxHeartbeats 4000000 in
theorem l02Draw_any {b c : Nat} {A : Option Addr} {bs : List Int} {w : World} (R : RY w A bs) (C : CurE b A c bs w) (hl : bs.length ≤ 1048576) :
    Calls Try.prog 36 #[.pointer (some ⟨b, 0, none⟩)] w (fun e w' => RatPost w e w' ∧ CurE b A c bs w' ∧ RY w' A bs ∧ w.grownBy w' (some b)) := by
  have hbl := C.lt
  go_enter Try.func36, Try.ntmps36
  go_wp2_with fail
  obtain ⟨W0, hW⟩ : ∃ W0, w.alloc (.cells #[.int .i64 0, .int .i64 0] 27) = W0 := ⟨_, rfl⟩
  rw [hW]
  have T0 : Below w.heap.size w W0 := by rw [← hW]; exact (by repeat (first | exact bR | refine bO ?_ | refine bA ?_ | refine bS ?_ | refine bD ?_ | refine bN ?_))
  have X : Hid (W0.heap[w.heap.size]? = some (.cells #[.int .i64 0, .int .i64 0] 27 (0, 0))) := Lib.hid (by rw [← hW]; exact heap_alloc_new _ _)
  have R0 := R.below T0
  have C0 := C.below T0
  have G0 : w.grownBy W0 (some b) := gb_below T0
  have hne : some w.heap.size ≠ some b := fun e => by injection e with e; omega
  have hge : w.heap.size ≤ w.heap.size := Nat.le_refl _
  clear hW R C T0
  obtain ⟨r, hr⟩ : ∃ r, w.heap.size = r := ⟨_, rfl⟩
  rw [hr] at X hne ⊢
  refine (below_big R0 C0 hl ⟨by omega, by omega⟩).mono ?_
  rintro e W1 ⟨x, rfl, ⟨hx0, hx1⟩, C1, K⟩
  have R1 := R0.thru C0 K
  have G1 := gb_trans G0 K
  have X1 : Hid (W1.heap[r]? = some (.cells #[.int .i64 0, .int .i64 0] 27 (0, 0))) := Lib.hid ((K.block r (Array.getElem?_eq_some_iff.1 X.out).1 hne).trans X.out)
  clear R0 C0 K G0 X
  go_wp2_with fail
  refine (below_small R1 C1 hl ⟨by omega, by omega⟩).mono ?_
  rintro e W2 ⟨y, rfl, ⟨hy0, hy1⟩, C2, K⟩
  have R2 := R1.thru C1 K
  have G2 := gb_trans G1 K
  have X2 : Hid (W2.heap[r]? = some (.cells #[.int .i64 0, .int .i64 0] 27 (0, 0))) := Lib.hid ((K.block r (Array.getElem?_eq_some_iff.1 X1.out).1 hne).trans X1.out)
  clear R1 C1 K G1 X1
  obtain ⟨⟨p, q⟩, hpq⟩ : ∃ v, ratOf (x - 200) (1 + y) = v := ⟨_, rfl⟩
  have hs := ratOf_small (M := 200) ⟨by omega, by omega⟩ ⟨by omega, by omega⟩ ⟨by omega, by omega⟩ hpq
  have HP := Lib.hid hpq
  clear hpq
  go_wp2_with fail
  refine (spec_RatioOf_eq HP ⟨by omega, by omega⟩ ⟨by omega, by omega⟩).mono ?_
  rintro e W3 ⟨rfl, K⟩
  have C3 := C2.below K
  have R3 := R2.below K
  have G3 := gb_trans G2 (gb_below (o := some b) K)
  have X3 : W3.heap[r]? = some (.cells #[.int .i64 0, .int .i64 0] 27 (0, 0)) := (K.block r (Array.getElem?_eq_some_iff.1 X2.out).1).trans X2.out
  clear C2 R2 G2 K X2
  have c0 := cell_blk (j := 0) (v := .int .i64 0) X3 rfl
  have c1 := cell_blk (j := 1) (v := .int .i64 0) X3 rfl
  have f0 := frozen_blk (j := 0) X3
  have f1 := frozen_blk (j := 1) X3
  have lr := (Array.getElem?_eq_some_iff.1 X3).1
  have HH : Hid (CurE b A c bs ((W3.setCell ⟨r, 0, none⟩ (.int .i64 p)).setCell ⟨r, 1, none⟩ (.int .i64 q)) ∧ RY ((W3.setCell ⟨r, 0, none⟩ (.int .i64 p)).setCell ⟨r, 1, none⟩ (.int .i64 q)) A bs ∧ w.grownBy ((W3.setCell ⟨r, 0, none⟩ (.int .i64 p)).setCell ⟨r, 1, none⟩ (.int .i64 q)) (some b)) := Lib.hid ⟨(C3.set_ hne).set_ hne, (R3.set2 X3).set2 (set2a X3), gb_new (gb_new G3 (by omega)) (by omega)⟩
  clear C3 R3 G3 X3
  go_wp2
  refine bodyPost_ret (v := .agg #[.int .i64 p, .int .i64 q]) (by simp [results, Try.results36, go_sem, c0, c1, f0, f1, lr]) rfl ⟨⟨p, q, rfl, hs.1, hs.2.1, hs.2.2.1⟩, HH.out⟩

set_option maxHeartbeats 2000000 in
theorem MakeRatio_any {c : Nat} {A : Option Addr} {bs : List Int} {n : Int} {w : World} (R : RY w A bs) (hl : bs.length ≤ 1048576) (hn : 0 ≤ n ∧ n ≤ 1000) :
    Calls Try.prog 14 #[.slice A bs.length c, .int .i64 n] w (fun e w' => RatPost w e w' ∧ Below w.heap.size w w') := by
  go_enter Try.func14, Try.ntmps14
  go_wp2_with fail
  obtain ⟨W0, hW⟩ : ∃ W0, w.alloc (.cells #[.int .i64 0, .int .i64 0] 27) = W0 := ⟨_, rfl⟩
  rw [hW]
  have T0 : Below w.heap.size w W0 := by rw [← hW]; exact (by repeat (first | exact bR | refine bO ?_ | refine bA ?_ | refine bS ?_ | refine bD ?_ | refine bN ?_))
  have X : Hid (W0.heap[w.heap.size]? = some (.cells #[.int .i64 0, .int .i64 0] 27 (0, 0))) := Lib.hid (by rw [← hW]; exact heap_alloc_new _ _)
  have R0 := R.below T0
  have s0 : w.heap.size < W0.heap.size := (Array.getElem?_eq_some_iff.1 X.out).1
  clear hW R
  refine (l26New_any R0 hl hn).mono ?_
  rintro e W1 ⟨b, rfl, hb, C, K⟩
  have R1 := R0.below K
  have T1 : Below w.heap.size w W1 := T0.trans (K.mono T0.size)
  have X1 : Hid (W1.heap[w.heap.size]? = some (.cells #[.int .i64 0, .int .i64 0] 27 (0, 0))) := Lib.hid ((K.block _ s0).trans X.out)
  have hne : some w.heap.size ≠ some b := fun e => by injection e with e; omega
  have hge : w.heap.size ≤ b := by omega
  clear R0 K X T0
  go_wp2_with fail
  refine (l02Draw_any R1 C hl).mono ?_
  rintro e W2 ⟨⟨p, q, rfl, hp⟩, _, _, K⟩
  have T2 := gb_low T1 K hge (Nat.le_refl _)
  have X2 := (K.block w.heap.size (Array.getElem?_eq_some_iff.1 X1.out).1 hne).trans X1.out
  clear R1 C K X1 T1
  obtain ⟨r, hr⟩ : ∃ r, w.heap.size = r := ⟨_, rfl⟩
  have hr2 : w.heap.size ≤ r := by omega
  rw [hr] at X2 ⊢
  have c0 := cell_blk (j := 0) (v := .int .i64 0) X2 rfl
  have c1 := cell_blk (j := 1) (v := .int .i64 0) X2 rfl
  have f0 := frozen_blk (j := 0) X2
  have f1 := frozen_blk (j := 1) X2
  have lr := (Array.getElem?_eq_some_iff.1 X2).1
  go_wp2
  refine bodyPost_ret (v := .agg #[.int .i64 p, .int .i64 q]) (by simp [results, Try.results14, go_sem, c0, c1, f0, f1, lr]) rfl ⟨⟨p, q, rfl, hp⟩, by rw [← hr]; exact (T2.setCell (Nat.le_refl _) _).setCell (Nat.le_refl _) _⟩
end Go.Proofs.Ytfbfaidblggceaa
