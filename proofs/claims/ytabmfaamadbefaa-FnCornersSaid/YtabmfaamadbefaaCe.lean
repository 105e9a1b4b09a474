/- An area that the reference draws. Condition: the code has at most 2^20 bytes. -/
import Derived.Test.YtabmfaamadbefaaCd
import Derived.Test.YtabmfaamadbefaaGl
set_option linter.unusedVariables false
set_option linter.unusedSimpArgs false
set_option linter.unusedSectionVars false
namespace Go.Proofs.Ytabmfaamadbefaa
open Go.RowKit

theorem RB.thruC {B b c : Nat} {A A1 : Option Addr} {bs : List Int} {w w' : World} {c1 : Nat} {xs : List H3} (h : RB B 36 w A1 c1 xs) (C : CurE b A c bs w) (K : w.grownBy w' (some b)) : RB B 36 w' A1 c1 xs := by
  obtain ⟨i, y, _, hb⟩ := C
  refine ⟨h.1, ?_⟩
  rcases h.2 with e | ⟨g, cap, cu, e1, hgB, hh, hr⟩
  · exact .inl e
  · refine .inr ⟨g, cap, cu, e1, hgB, (K.block g (Array.getElem?_eq_some_iff.1 hh).1 (fun e => ?_)).trans hh, hr⟩
    injection e with e
    subst e
    rw [hh] at hb
    injection hb with hb; injection hb with _ hb; exact absurd hb (by decide)
theorem gb_lowB {s : Nat} {w w1 w2 : World} {o : Option Nat} (h : w.grownBy w1 o) (hb : Below s w1 w2) (hs : w.heap.size ≤ s) : w.grownBy w2 o :=
  ⟨hb.os.trans h.os, hb.tape.trans h.tape, hb.output.trans h.output, Nat.le_trans h.size hb.size, fun k hk hne => (hb.block k (by omega)).trans (h.block k hk hne)⟩
theorem CurE.belowB {s b c : Nat} {A : Option Addr} {bs : List Int} {w w' : World} (h : CurE b A c bs w) (hb : Below s w w') (hs : b < s) : CurE b A c bs w' := by
  obtain ⟨i, h0, hi, hh⟩ := h
  exact ⟨i, h0, hi, (hb.block b hs).trans hh⟩
theorem RY.belowB {s : Nat} {A : Option Addr} {bs : List Int} {w0 w w' : World} (h : RY w A bs) (h0 : RY w0 A bs) (hb : Below s w w') (hs : w0.heap.size ≤ s) : RY w' A bs := fun k hk => by
  obtain ⟨g, o, h1, h2, h3, h4⟩ := h k hk
  obtain ⟨g', o', h1', h2', _⟩ := h0 k hk
  have e : g = g' := by rw [h1] at h1'; injection h1' with e; injection e
  refine ⟨g, o, h1, Nat.lt_of_lt_of_le h2 hb.size, ?_, h4⟩
  rw [← h3]
  exact World.cell?_of_block (hb.block g (by omega))
theorem r3_one {w : World} {a b c : Int} {n : Nat} (hn : n = w.heap.size) : R3 36 (w.alloc (.cells #[.int .i64 a, .int .i64 b, .int .i64 c] 36)) (some ⟨n, 0, none⟩) 1 [⟨a, b, c⟩] := by
  subst hn
  exact ⟨rfl, .inr ⟨_, 1, _, rfl, Nat.zero_le _, heap_alloc_new _ _, Nat.le_refl _, by unfold maxLen; omega, rfl, rfl⟩⟩
theorem unit_ok {a b c : Int} (h : (a = 1 ∧ b = 0) ∨ (a = -1 ∧ b = 0) ∨ (a = 0 ∧ b = 1) ∨ (a = 0 ∧ b = -1)) (hc : -1000 ≤ c ∧ c ≤ 1000) : HOk ⟨a, b, c⟩ := by
  rcases h with ⟨rfl, rfl⟩ | ⟨rfl, rfl⟩ | ⟨rfl, rfl⟩ | ⟨rfl, rfl⟩ <;> refine ⟨by simp, by simp, by simp only; omega, by unfold NZ; simp, by unfold Prim; simp [gcdL]⟩
def boxL (x y d h : Int) : List H3 := [⟨1, 0, x + d⟩, ⟨0, 1, y + h⟩, ⟨-1, 0, -x⟩, ⟨0, -1, -y⟩]
theorem boxL_ok {x y d h : Int} (hx : -40 ≤ x ∧ x ≤ 40) (hy : -40 ≤ y ∧ y ≤ 40) (hd : 0 ≤ d ∧ d ≤ 100) (hh : 0 ≤ h ∧ h ≤ 100) : ∀ g ∈ boxL x y d h, HOk g := by
  intro g hg
  simp only [boxL, List.mem_cons, List.not_mem_nil, or_false] at hg
  rcases hg with rfl | rfl | rfl | rfl
  · exact unit_ok (.inl ⟨rfl, rfl⟩) ⟨by omega, by omega⟩
  · exact unit_ok (.inr (.inr (.inl ⟨rfl, rfl⟩))) ⟨by omega, by omega⟩
  · exact unit_ok (.inr (.inl ⟨rfl, rfl⟩)) ⟨by omega, by omega⟩
  · exact unit_ok (.inr (.inr (.inr ⟨rfl, rfl⟩))) ⟨by omega, by omega⟩

/-- The half planes that an area is drawn of. -/
structure DrawL (px py pd ph : Int) (L : List H3) : Prop where
  box : ∀ g ∈ boxL px py pd ph, g ∈ L
  ok : ∀ g ∈ L, HOk g ∧ (-3 ≤ g.a ∧ g.a ≤ 3) ∧ (-3 ≤ g.b ∧ g.b ≤ 3) ∧ (-400 ≤ g.c ∧ g.c ≤ 400) ∧ g.a * (px + 1) + g.b * (py + 1) < g.c
structure AreaBd (px py pd ph : Int) : Prop where
  bx : -40 ≤ px ∧ px ≤ 19
  bY : -40 ≤ py ∧ py ≤ 19
  bd : 20 ≤ pd ∧ pd ≤ 79
  bh : 20 ≤ ph ∧ ph ≤ 79
def AreaP (p : List H3) : Prop := ∃ (px py pd ph : Int) (L : List H3), p = makeR L ∧ L.length ≤ 6 ∧ DrawL px py pd ph L ∧ AreaBd px py pd ph
theorem draw_box {px py pd ph : Int} (B : AreaBd px py pd ph) : DrawL px py pd ph (boxL px py pd ph) := by
  obtain ⟨bx, bY, bd, bh⟩ := B
  refine ⟨fun g hg => hg, fun g hg => ⟨boxL_ok (by omega) (by omega) (by omega) (by omega) g hg, ?_⟩⟩
  simp only [boxL, List.mem_cons, List.not_mem_nil, or_false] at hg
  rcases hg with rfl | rfl | rfl | rfl <;> (simp only; omega)
theorem scaled_le {n A : Int} {k : Nat} (k0 : 0 < k) (h : -A ≤ n * k ∧ n * k ≤ A) (hA : 0 ≤ A) : -A ≤ n ∧ n ≤ A := by
  obtain ⟨j, rfl⟩ : ∃ j : Nat, k = j + 1 := ⟨k - 1, by omega⟩
  have e : n * ((j + 1 : Nat) : Int) = n * (j : Int) + n := by push_cast; grind
  rw [e] at h
  rcases Int.lt_or_le n 0 with q | q
  · have := Int.mul_nonpos_of_nonpos_of_nonneg (show n ≤ 0 by omega) (show (0 : Int) ≤ (j : Int) by omega)
    omega
  · have := Int.mul_nonneg q (show (0 : Int) ≤ (j : Int) by omega)
    omega
theorem draw_add {px py pd ph qa qb cc : Int} {L : List H3} {g : H3} (D : DrawL px py pd ph L) (B : AreaBd px py pd ph) (h : halfOf qa qb cc = (g, true)) (ba : -3 ≤ qa ∧ qa ≤ 3) (bb : 1 ≤ qb ∧ qb ≤ 3) (h1 : qa * px + qb * py + 20 ≤ cc) (h2 : cc ≤ qa * px + qb * py + 158) : DrawL px py pd ph (L ++ [g]) := by
  refine ⟨fun x hx => List.mem_append_left _ (D.box x hx), fun x hx => ?_⟩
  rcases List.mem_append.1 hx with q | q
  · exact D.ok x q
  · rw [List.mem_singleton.1 q]
    obtain ⟨k, k0, ea, eb, ec⟩ := half_scale h
    have m1 := mul_bd (A := 3) (B := 40) ba (show -40 ≤ px ∧ px ≤ 40 by have := B.bx; omega)
    have m2 := mul_bd (A := 3) (B := 40) (show -3 ≤ qb ∧ qb ≤ 3 by omega) (show -40 ≤ py ∧ py ≤ 40 by have := B.bY; omega)
    refine ⟨halfOf_ok h rfl, scaled_le k0 (by rw [← ea]; omega) (by omega), scaled_le k0 (by rw [← eb]; omega) (by omega), scaled_le k0 (by rw [← ec]; omega) (by omega), ?_⟩
    have e : (g.a * (px + 1) + g.b * (py + 1)) * (k : Int) < g.c * k := by
      have : (g.a * (px + 1) + g.b * (py + 1)) * (k : Int) = (g.a * k) * px + (g.b * k) * py + g.a * k + g.b * k := by grind
      rw [this, ← ea, ← eb, ← ec]
      omega
    apply Classical.byContradiction; intro hn
    have := Int.mul_le_mul_of_nonneg_right (show g.c ≤ g.a * (px + 1) + g.b * (py + 1) by omega) (show (0 : Int) ≤ (k : Int) by omega)
    omega
def AreaPost (w : World) (e : Ending) (w' : World) : Prop := ∃ (p : List H3) (A' : Option Addr) (c' : Nat), e = .returned (.agg #[.slice A' p.length c']) ∧ R3 36 w' A' c' p ∧ regionOk p = true ∧ AreaP p
set_option maxRecDepth 100000 in
set_option maxHeartbeats 8000000 in
theorem l05Draw_any {b c : Nat} {A : Option Addr} {bs : List Int} {w : World} (R : RY w A bs) (C : CurE b A c bs w) (hl : bs.length ≤ 1048576) :
    Calls Try.prog 33 #[.pointer (some ⟨b, 0, none⟩)] w (fun e w' => AreaPost w e w' ∧ w.grownBy w' (some b)) := by
  have hbl := C.lt
  go_enter Try.func33, Try.ntmps33
  go_wp2_with fail
  obtain ⟨W0, hW⟩ : ∃ W0, w.alloc (.cells #[.slice none 0 0] 25) = W0 := ⟨_, rfl⟩
  rw [hW]
  have T0 : Below w.heap.size w W0 := by rw [← hW]; exact (by repeat (first | exact bR | refine bO ?_ | refine bA ?_ | refine bS ?_ | refine bD ?_ | refine bN ?_))
  have s0 : w.heap.size + 1 ≤ W0.heap.size := by rw [← hW]; simp
  have X0 : Hid (W0.heap[w.heap.size]? = some (.cells #[.slice none 0 0] 25 (0, 0))) := Lib.hid (by rw [← hW]; exact heap_alloc_new _ _)
  have R0 := R.below T0
  have C0 := C.below T0
  have G0 : w.grownBy W0 (some b) := gb_below T0
  have hne : some w.heap.size ≠ some b := fun e => by injection e with e; omega
  clear hW C T0
  obtain ⟨r, hr⟩ : ∃ r, w.heap.size = r := ⟨_, rfl⟩
  rw [hr] at X0 hne ⊢
  refine (below_small R0 C0 hl ⟨by omega, by omega⟩).mono ?_
  rintro e W1 ⟨x, rfl, ⟨x0, x1⟩, C1, K⟩
  have R1 := R0.thru C0 K
  have G1 := gb_trans G0 K
  have X1 : Hid (W1.heap[r]? = some (.cells #[.slice none 0 0] 25 (0, 0))) := Lib.hid ((K.block r (Array.getElem?_eq_some_iff.1 X0.out).1 hne).trans X0.out)
  have s1 : w.heap.size + 1 ≤ W1.heap.size := by have := K.size; omega
  clear R0 C0 G0 X0 K s0
  go_wp2_with fail
  obtain ⟨px, hpx⟩ : ∃ z : Int, x - 40 = z := ⟨_, rfl⟩
  rw [hpx]
  have bx : -40 ≤ px ∧ px ≤ 19 := by omega
  clear hpx x0 x1
  refine (below_small R1 C1 hl ⟨by omega, by omega⟩).mono ?_
  rintro e W2 ⟨y, rfl, ⟨y0, y1⟩, C2, K⟩
  have R2 := R1.thru C1 K
  have G2 := gb_trans G1 K
  have X2 : Hid (W2.heap[r]? = some (.cells #[.slice none 0 0] 25 (0, 0))) := Lib.hid ((K.block r (Array.getElem?_eq_some_iff.1 X1.out).1 hne).trans X1.out)
  have s2 : w.heap.size + 1 ≤ W2.heap.size := by have := K.size; omega
  clear R1 C1 G1 X1 K s1
  go_wp2_with fail
  obtain ⟨py, hpy⟩ : ∃ z : Int, y - 40 = z := ⟨_, rfl⟩
  rw [hpy]
  have bY : -40 ≤ py ∧ py ≤ 19 := by omega
  clear hpy y0 y1
  refine (below_small R2 C2 hl ⟨by omega, by omega⟩).mono ?_
  rintro e W3 ⟨d, rfl, ⟨d0, d1⟩, C3, K⟩
  have R3 := R2.thru C2 K
  have G3 := gb_trans G2 K
  have X3 : Hid (W3.heap[r]? = some (.cells #[.slice none 0 0] 25 (0, 0))) := Lib.hid ((K.block r (Array.getElem?_eq_some_iff.1 X2.out).1 hne).trans X2.out)
  have s3 : w.heap.size + 1 ≤ W3.heap.size := by have := K.size; omega
  clear R2 C2 G2 X2 K s2
  go_wp2_with fail
  obtain ⟨pd, hpd⟩ : ∃ z : Int, 20 + d = z := ⟨_, rfl⟩
  rw [hpd]
  have bd : 20 ≤ pd ∧ pd ≤ 79 := by omega
  clear hpd d0 d1
  refine (below_small R3 C3 hl ⟨by omega, by omega⟩).mono ?_
  rintro e W4 ⟨h, rfl, ⟨h0, h1⟩, C4, K⟩
  have R4 := R3.thru C3 K
  have G4 := gb_trans G3 K
  have X4 : Hid (W4.heap[r]? = some (.cells #[.slice none 0 0] 25 (0, 0))) := Lib.hid ((K.block r (Array.getElem?_eq_some_iff.1 X3.out).1 hne).trans X3.out)
  have s4 : w.heap.size + 1 ≤ W4.heap.size := by have := K.size; omega
  clear R3 C3 G3 X3 K s3
  go_wp2_with fail
  obtain ⟨ph, hph⟩ : ∃ z : Int, 20 + h = z := ⟨_, rfl⟩
  rw [hph]
  have bh : 20 ≤ ph ∧ ph ≤ 79 := by omega
  clear hph h0 h1
  obtain ⟨W5, hW⟩ : ∃ W5, W4.alloc (.cells #[.int .i64 1, .int .i64 0, .int .i64 (px + pd), .int .i64 0, .int .i64 1, .int .i64 (py + ph), .int .i64 (-1), .int .i64 0, .int .i64 (-px), .int .i64 0, .int .i64 (-1), .int .i64 (-py)] 36) = W5 := ⟨_, rfl⟩
  rw [hW]
  have T5 : Below W4.heap.size W4 W5 := by rw [← hW]; exact (by repeat (first | exact bR | refine bO ?_ | refine bA ?_ | refine bS ?_ | refine bD ?_ | refine bN ?_))
  have L5 : RB (w.heap.size + 1) 36 W5 (some ⟨W4.heap.size, 0, none⟩) 4 (boxL px py pd ph) := by rw [← hW]; exact ⟨rfl, .inr ⟨W4.heap.size, 4, _, rfl, by omega, heap_alloc_new _ _, Nat.le_refl _, by unfold maxLen; omega, rfl, rfl⟩⟩
  have R5 := R4.below T5
  have C5 := C4.below T5
  have G5 := gb_trans G4 (gb_below (o := some b) T5)
  have X5 : Hid (W5.heap[r]? = some (.cells #[.slice none 0 0] 25 (0, 0))) := Lib.hid ((T5.block r (Array.getElem?_eq_some_iff.1 X4.out).1).trans X4.out)
  have s5 : w.heap.size + 1 ≤ W5.heap.size := by have := T5.size; omega
  generalize W4.heap.size = gl at L5 ⊢
  clear hW T5 R4 C4 G4 X4 s4
  refine (below_small R5 C5 hl ⟨by omega, by omega⟩).mono ?_
  rintro e W6 ⟨n, rfl, ⟨n0, n1⟩, C6, K⟩
  have R6 := R5.thru C5 K
  have L6 := L5.thruC C5 K
  have G6 := gb_trans G5 K
  have X6 : Hid (W6.heap[r]? = some (.cells #[.slice none 0 0] 25 (0, 0))) := Lib.hid ((K.block r (Array.getElem?_eq_some_iff.1 X5.out).1 hne).trans X5.out)
  have s6 : w.heap.size + 1 ≤ W6.heap.size := by have := K.size; omega
  clear R5 C5 G5 X5 L5 K s5
  obtain ⟨n2, rfl⟩ := Int.eq_ofNat_of_zero_le n0
  have BA : AreaBd px py pd ph := ⟨bx, bY, bd, bh⟩
  have hb4 := draw_box BA
  have hb4l : (boxL px py pd ph).length = 4 := rfl
  go_wp2
  go_loopw [7, 8] (fun o i wr => ∃ (k : Nat) (L : List H3) (A' : Option Addr) (c' : Nat), i = .int .i64 k ∧ o = .slice A' L.length c' ∧ (k ≤ 2 ∧ L.length + k ≤ 6) ∧ DrawL px py pd ph L ∧ RB (w.heap.size + 1) 36 wr A' c' L ∧ CurE b A c bs wr ∧ RY wr A bs ∧ w.grownBy wr (some b) ∧ Hid (wr.heap[r]? = some (.cells #[.slice none 0 0] 25 (0, 0))) ∧ w.heap.size + 1 ≤ wr.heap.size) (fun _ i _ => (intOf i).toNat)
  case atStart => exact ⟨n2, boxL px py pd ph, some ⟨gl, 0, none⟩, 4, rfl, rfl, ⟨by omega, by rw [hb4l]; omega⟩, hb4, L6, C6, R6, G6, X6, s6⟩
  case round =>
    obtain ⟨k, L, A', c', rfl, rfl, ⟨hk2, hLk⟩, hL, L0, C0, R0, G0, X0, s0⟩ := hrel
    clear L6 C6 R6 G6 X6 s6
    by_cases hk : 0 < k
    · go_wp2_with fail
      refine (below_small R0 C0 hl ⟨by omega, by omega⟩).mono ?_
      rintro e W1 ⟨x, rfl, ⟨x0, x1⟩, C1, K⟩
      have R1 := R0.thru C0 K
      have L1 := L0.thruC C0 K
      have G1 := gb_trans G0 K
      have X1 : Hid (W1.heap[r]? = some (.cells #[.slice none 0 0] 25 (0, 0))) := Lib.hid ((K.block r (Array.getElem?_eq_some_iff.1 X0.out).1 hne).trans X0.out)
      have s1 : w.heap.size + 1 ≤ W1.heap.size := by have := K.size; omega
      clear R0 C0 G0 X0 L0 K s0
      go_wp2_with fail
      obtain ⟨qa, hqa⟩ : ∃ z : Int, x - 3 = z := ⟨_, rfl⟩
      rw [hqa]
      have ba : -3 ≤ qa ∧ qa ≤ 3 := by omega
      clear hqa x0 x1
      refine (below_small R1 C1 hl ⟨by omega, by omega⟩).mono ?_
      rintro e W2 ⟨y, rfl, ⟨y0, y1⟩, C2, K⟩
      have R2 := R1.thru C1 K
      have L2 := L1.thruC C1 K
      have G2 := gb_trans G1 K
      have X2 : Hid (W2.heap[r]? = some (.cells #[.slice none 0 0] 25 (0, 0))) := Lib.hid ((K.block r (Array.getElem?_eq_some_iff.1 X1.out).1 hne).trans X1.out)
      have s2 : w.heap.size + 1 ≤ W2.heap.size := by have := K.size; omega
      clear R1 C1 G1 X1 L1 K s1
      have m1 := mul_bd (A := 3) (B := 40) ba (show -40 ≤ px ∧ px ≤ 40 by omega)
      have m2 : -(3 * 40) ≤ (1 + y) * py ∧ (1 + y) * py ≤ 3 * 40 := mul_bd (A := 3) (B := 40) (x := 1 + y) ⟨by omega, by omega⟩ (show -40 ≤ py ∧ py ≤ 40 by omega)
      go_wp2_with fail
      obtain ⟨qb, hqb⟩ : ∃ z : Int, 1 + y = z := ⟨_, rfl⟩
      rw [hqb] at m2 ⊢
      have bb : 1 ≤ qb ∧ qb ≤ 3 := by omega
      clear hqb y0 y1
      refine (below_small R2 C2 hl ⟨by omega, by omega⟩).mono ?_
      rintro e W3 ⟨z, rfl, ⟨z0, z1⟩, C3, K⟩
      have R3 := R2.thru C2 K
      have L3 := L2.thruC C2 K
      have G3 := gb_trans G2 K
      have X3 : Hid (W3.heap[r]? = some (.cells #[.slice none 0 0] 25 (0, 0))) := Lib.hid ((K.block r (Array.getElem?_eq_some_iff.1 X2.out).1 hne).trans X2.out)
      have s3 : w.heap.size + 1 ≤ W3.heap.size := by have := K.size; omega
      clear R2 C2 G2 X2 L2 K s2
      have m3 : -(6 * 158) ≤ (3 + z) * (pd + ph) ∧ (3 + z) * (pd + ph) ≤ 6 * 158 := mul_bd (A := 6) (B := 158) (x := 3 + z) ⟨by omega, by omega⟩ ⟨by omega, by omega⟩
      have m4 : 120 ≤ (3 + z) * (pd + ph) := by have := Int.mul_le_mul_of_nonneg_right (show 3 ≤ 3 + z by omega) (show 0 ≤ pd + ph by omega); omega
      go_wp2_with fail
      obtain ⟨cc, hcc⟩ : ∃ t : Int, qa * px + qb * py + (3 + z) * (pd + ph) / 6 = t := ⟨_, rfl⟩
      rw [hcc]
      have bc : -100000 ≤ cc ∧ cc ≤ 100000 := by omega
      have hc1 : qa * px + qb * py + 20 ≤ cc := by omega
      have hc2 : cc ≤ qa * px + qb * py + 158 := by omega
      clear hcc m1 m2 m3 m4 z0 z1
      obtain ⟨⟨g, ok⟩, hg⟩ : ∃ v, halfOf qa qb cc = v := ⟨_, rfl⟩
      have HG := Lib.hid hg
      refine (spec_HalfOf_eq HG (by omega) (by omega) (by omega)).mono ?_
      rintro e W4 ⟨rfl, K⟩
      have C4 := C3.below K
      have R4 := R3.below K
      have L4 := L3.below K
      have G4 := gb_trans G3 (gb_below (o := some b) K)
      have X4 : Hid (W4.heap[r]? = some (.cells #[.slice none 0 0] 25 (0, 0))) := Lib.hid ((K.block r (Array.getElem?_eq_some_iff.1 X3.out).1).trans X3.out)
      have s4 : w.heap.size + 1 ≤ W4.heap.size := by have := K.size; omega
      clear R3 C3 G3 X3 L3 K s3 HG
      have hki : Value.int .i64 ((k : Int) - 1) = .int .i64 ((k - 1 : Nat) : Int) := by congr 1; omega
      cases ok with
      | false =>
        clear hg hc1 hc2
        have TA : Below W4.heap.size W4 (W4.alloc (.cells #[.int .i64 g.a, .int .i64 g.b, .int .i64 g.c] 36)) := by exact (by repeat (first | exact bR | refine bO ?_ | refine bA ?_ | refine bS ?_ | refine bD ?_ | refine bN ?_))
        have HF : Hid (RB (w.heap.size + 1) 36 (W4.alloc (.cells #[.int .i64 g.a, .int .i64 g.b, .int .i64 g.c] 36)) A' c' L ∧ CurE b A c bs (W4.alloc (.cells #[.int .i64 g.a, .int .i64 g.b, .int .i64 g.c] 36)) ∧ RY (W4.alloc (.cells #[.int .i64 g.a, .int .i64 g.b, .int .i64 g.c] 36)) A bs ∧ w.grownBy (W4.alloc (.cells #[.int .i64 g.a, .int .i64 g.b, .int .i64 g.c] 36)) (some b) ∧ Hid ((W4.alloc (.cells #[.int .i64 g.a, .int .i64 g.b, .int .i64 g.c] 36)).heap[r]? = some (.cells #[.slice none 0 0] 25 (0, 0))) ∧ w.heap.size + 1 ≤ (W4.alloc (.cells #[.int .i64 g.a, .int .i64 g.b, .int .i64 g.c] 36)).heap.size) := Lib.hid ⟨L4.below TA, C4.below TA, R4.below TA, gb_trans G4 (gb_below TA), Lib.hid ((TA.block r (Array.getElem?_eq_some_iff.1 X4.out).1).trans X4.out), Nat.le_trans s4 TA.size⟩
        clear L4 C4 R4 G4 X4 s4 TA
        go_wp2
        go_roundw
        case rel => exact ⟨k - 1, L, A', c', hki, rfl, ⟨by omega, by omega⟩, hL, HF.out⟩
        case measure => simp [intOf]; omega
      | true =>
        have hL2 := draw_add hL BA hg ba bb hc1 hc2
        clear hg hc1 hc2
        go_wp2_with (at_builtin; refine wpList_append_rows (os := L) (xs := [g]) rfl _ _ rfl (w.heap.size + 1) rfl (L4.below (by repeat (first | exact bR | refine bO ?_ | refine bA ?_ | refine bS ?_ | refine bD ?_ | refine bN ?_))) rfl (r3_one (by simp)) (by simp; omega) (by simp; omega) ?_; intro A5 c5 W5 L5 B5; have hb5 : Below (w.heap.size + 1) W4 W5 := B5.out (by repeat (first | exact bR | refine bO ?_ | refine bA ?_ | refine bS ?_ | refine bD ?_ | refine bN ?_)) s4; clear B5; have HF : Hid (RB (w.heap.size + 1) 36 W5 A5 c5 (L ++ [g]) ∧ CurE b A c bs W5 ∧ RY W5 A bs ∧ w.grownBy W5 (some b) ∧ Hid (W5.heap[r]? = some (.cells #[.slice none 0 0] 25 (0, 0))) ∧ w.heap.size + 1 ≤ W5.heap.size) := Lib.hid ⟨L5, C4.belowB hb5 (by omega), R4.belowB R hb5 (by omega), gb_lowB G4 hb5 (by omega), Lib.hid ((hb5.block r (by omega)).trans X4.out), Nat.le_trans s4 hb5.size⟩; clear L5 hb5 L4 C4 R4 G4 X4 s4)
        go_roundw
        case rel => exact ⟨k - 1, L ++ [g], A5, c5, hki, by rw [List.length_append]; rfl, ⟨by omega, by rw [List.length_append]; simp; omega⟩, hL2, HF.out⟩
        case measure => simp [intOf]; omega
    · obtain rfl : k = 0 := by omega
      obtain ⟨out, hout⟩ : ∃ out, makeR L = out := ⟨_, rfl⟩
      have hoL : ∀ g ∈ L, HOk g := fun g hg => (hL.ok g hg).1
      have hok : regionOk out = true ∧ AreaP out := ⟨by rw [← hout]; exact made_ok hoL (by omega), px, py, pd, ph, L, hout.symm, by omega, hL, BA⟩
      go_wp2_with fail
      refine (l05Make_eq hoL L0.r3 (by omega) (Lib.hid hout)).mono ?_
      rintro e W1 ⟨A1, c1, rfl, L1, K⟩
      have G1 := gb_trans G0 (gb_below (o := some b) K)
      have X1 := (K.block r (Array.getElem?_eq_some_iff.1 X0.out).1).trans X0.out
      clear L0 C0 R0 G0 X0 K
      have x0 := cell_blk (j := 0) (v := .slice none 0 0) X1 rfl
      have f0 := frozen_blk (j := 0) X1
      have lr := (Array.getElem?_eq_some_iff.1 X1).1
      have HH : Hid (R3 36 (W1.setCell ⟨r, 0, none⟩ (.slice A1 out.length c1)) A1 c1 out ∧ w.grownBy (W1.setCell ⟨r, 0, none⟩ (.slice A1 out.length c1)) (some b)) := Lib.hid ⟨(L1.set_box X1 (by decide)).r3, gb_new G1 (by omega)⟩
      clear L1 G1 X1
      go_wp2
      refine bodyPost_ret (v := .agg #[.slice A1 out.length c1]) (by simp [results, Try.results33, go_sem, x0, f0, lr]) rfl ⟨⟨out, A1, c1, rfl, HH.out.1, hok⟩, HH.out.2⟩

set_option maxHeartbeats 2000000 in
theorem MakeArea_any {c : Nat} {A : Option Addr} {bs : List Int} {n : Int} {w : World} (R : RY w A bs) (hl : bs.length ≤ 1048576) (hn : 0 ≤ n ∧ n ≤ 1000) :
    Calls Try.prog 8 #[.slice A bs.length c, .int .i64 n] w (fun e w' => AreaPost w e w' ∧ Below w.heap.size w w') := by
  go_enter Try.func8, Try.ntmps8
  go_wp2_with fail
  obtain ⟨W0, hW⟩ : ∃ W0, w.alloc (.cells #[.slice none 0 0] 25) = W0 := ⟨_, rfl⟩
  rw [hW]
  have T0 : Below w.heap.size w W0 := by rw [← hW]; exact (by repeat (first | exact bR | refine bO ?_ | refine bA ?_ | refine bS ?_ | refine bD ?_ | refine bN ?_))
  have X : Hid (W0.heap[w.heap.size]? = some (.cells #[.slice none 0 0] 25 (0, 0))) := Lib.hid (by rw [← hW]; exact heap_alloc_new _ _)
  have R0 := R.below T0
  have s0 : w.heap.size < W0.heap.size := (Array.getElem?_eq_some_iff.1 X.out).1
  clear hW R
  refine (l26New_any R0 hl hn).mono ?_
  rintro e W1 ⟨b, rfl, hb, C, K⟩
  have R1 := R0.below K
  have T1 : Below w.heap.size w W1 := T0.trans (K.mono T0.size)
  have X1 : Hid (W1.heap[w.heap.size]? = some (.cells #[.slice none 0 0] 25 (0, 0))) := Lib.hid ((K.block _ s0).trans X.out)
  have hne : some w.heap.size ≠ some b := fun e => by injection e with e; omega
  have hge : w.heap.size ≤ b := by omega
  clear R0 K X T0
  go_wp2_with fail
  refine (l05Draw_any R1 C hl).mono ?_
  rintro e W2 ⟨⟨p, A1, c1, rfl, RP, kp⟩, K⟩
  have T2 := gb_low T1 K hge (Nat.le_refl _)
  have X2 := (K.block w.heap.size (Array.getElem?_eq_some_iff.1 X1.out).1 hne).trans X1.out
  clear R1 C K X1 T1
  obtain ⟨r, hr⟩ : ∃ r, w.heap.size = r := ⟨_, rfl⟩
  rw [hr] at X2 ⊢
  have c0 := cell_blk (j := 0) (v := .slice none 0 0) X2 rfl
  have f0 := frozen_blk (j := 0) X2
  have lr := (Array.getElem?_eq_some_iff.1 X2).1
  have HR : Hid (R3 36 (W2.setCell ⟨r, 0, none⟩ (.slice A1 p.length c1)) A1 c1 p) := Lib.hid (RB.set_box (B := 0) RP X2 (by decide))
  clear RP X2
  go_wp2
  refine bodyPost_ret (v := .agg #[.slice A1 p.length c1]) (by simp [results, Try.results8, go_sem, c0, f0, lr]) rfl ⟨⟨p, A1, c1, rfl, HR.out, kp⟩, by rw [← hr]; exact T2.setCell (Nat.le_refl _) _⟩
end Go.Proofs.Ytabmfaamadbefaa
