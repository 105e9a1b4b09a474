/- Several texts in one: Cz, Cn. Each says its own conditions. -/
import Derived.Test.YtabmfaamadbefaaGreatWords
import Derived.Test.YtabmfaamadbefaaGreatA
import Derived.Test.YtabmfaamadbefaaGreatReg
import Derived.Laws.BitsLemmas
/- The cursor of the reference's draws: a byte, a number below a bound. Condition: the code has at most 2^20 bytes. -/
set_option linter.unusedVariables false
set_option linter.unusedSimpArgs false
set_option linter.unusedSectionVars false
namespace Go.Proofs.YtabmfaamadbefaaGreat
open Go.RowKit
/-- A row of bytes that can be read. -/
def RY (w : World) (A : Option Addr) (bs : List Int) : Prop := ∀ k (hk : k < bs.length), ∃ g o, A = some ⟨g, o, none⟩ ∧ g < w.heap.size ∧ w.cell? ⟨g, o + k, none⟩ = some (.int .u8 bs[k]) ∧ 0 ≤ bs[k] ∧ bs[k] ≤ 255
theorem RY.below {w w' : World} {A : Option Addr} {bs : List Int} (h : RY w A bs) (hb : Below w.heap.size w w') : RY w' A bs := fun k hk => by
  obtain ⟨g, o, h1, h2, h3, h4⟩ := h k hk
  have := hb.size
  exact ⟨g, o, h1, by omega, (hb.cell (p := ⟨g, o + k, none⟩) h2).trans h3, h4⟩
theorem RY.set_ {w : World} {A : Option Addr} {bs : List Int} {b i c n : Nat} {v : Value} {A1 : Option Addr} {x y : Int} {T : TypeId} (h : RY w A bs) (hb : w.heap[b]? = some (.cells #[.slice A1 n c, .int .i64 x, .int .i64 y] T (0, 0))) : RY (w.setCell ⟨b, i, none⟩ v) A bs := fun k hk => by
  obtain ⟨g, o, h1, h2, h3, h4⟩ := h k hk
  have hne : g ≠ b := by
    rintro rfl
    have q : (#[Value.slice A1 n c, .int .i64 x, .int .i64 y] : Array Value)[o + k]? = some (.int .u8 bs[k]) := by simpa [World.cell?, hb] using h3
    have hl := (Array.getElem?_eq_some_iff.1 q).1
    simp at hl
    have : o + k = 0 ∨ o + k = 1 ∨ o + k = 2 := by omega
    rcases this with e | e | e <;> rw [e] at q <;> simp at q
  refine ⟨g, o, h1, by simpa using h2, ?_, h4⟩
  rw [← h3]
  simp [World.cell?, heap_setCell_other w ⟨b, i, none⟩ g v hne]
def CurE (b : Nat) (A : Option Addr) (c : Nat) (bs : List Int) (w : World) : Prop := ∃ (i : Nat) (h : Int), i ≤ bs.length ∧ w.heap[b]? = some (.cells #[.slice A bs.length c, .int .i64 i, .int .i64 h] 112 (0, 0))
theorem CurE.below {b c : Nat} {A : Option Addr} {bs : List Int} {w w' : World} (h : CurE b A c bs w) (hb : Below w.heap.size w w') : CurE b A c bs w' := by
  obtain ⟨i, h0, hi, hh⟩ := h
  exact ⟨i, h0, hi, (hb.block b (Array.getElem?_eq_some_iff.1 hh).1).trans hh⟩
/-- What a draw leaves: a number below n, the cursor further on, all else as it was. -/
def DrawPost (b : Nat) (A : Option Addr) (c : Nat) (bs : List Int) (n : Int) (w : World) (e : Ending) (w' : World) : Prop := ∃ x : Int, e = .returned (.int .i64 x) ∧ (0 ≤ x ∧ x < n) ∧ CurE b A c bs w' ∧ w.grownBy w' (some b)
theorem gb_set {w wr : World} {g i : Nat} {v : Value} (h : w.grownBy wr (some g)) : w.grownBy (wr.setCell ⟨g, i, none⟩ v) (some g) :=
  ⟨h.os, h.tape, h.output, by simpa using h.size, fun k hk hne => (heap_setCell_other _ _ _ _ (fun e => hne (by rw [e]))).trans (h.block k hk hne)⟩
theorem gb_below {w wr : World} {o : Option Nat} (h : Below w.heap.size w wr) : w.grownBy wr o := ⟨h.os, h.tape, h.output, h.size, fun k hk _ => h.block k hk⟩
theorem gb_trans {w w1 w2 : World} {o : Option Nat} (h : w.grownBy w1 o) (h2 : w1.grownBy w2 o) : w.grownBy w2 o :=
  ⟨h2.os.trans h.os, h2.tape.trans h.tape, h2.output.trans h.output, Nat.le_trans h.size h2.size, fun k hk hne => (h2.block k (Nat.lt_of_lt_of_le hk h.size) hne).trans (h.block k hk hne)⟩
theorem gb_ov {w wr : World} {o : Option Nat} (x : More) (h : w.grownBy wr o) : w.grownBy (ov wr x) o :=
  ⟨h.os, h.tape, h.output, Nat.le_trans h.size (by rw [ov_size]; omega), fun k hk hne => (ov_block _ x (Nat.lt_of_lt_of_le hk h.size)).trans (h.block k hk hne)⟩
/-- A block of a call's own that changed: the world below is as it was. -/
theorem gb_low {B b : Nat} {w0 w w' : World} (h : Below B w0 w) (hg : w.grownBy w' (some b)) (hb : B ≤ b) (hB : B ≤ w0.heap.size) : Below B w0 w' :=
  ⟨hg.os.trans h.os, hg.tape.trans h.tape, hg.output.trans h.output, Nat.le_trans h.size hg.size, fun k hk => (hg.block k (by have := h.size; omega) (fun e => by injection e with e; omega)).trans (h.block k hk)⟩
theorem and255 (X : Int) : 0 ≤ bits .and .i64 X 255 ∧ bits .and .i64 X 255 < 256 := by
  unfold bits
  simp only
  have e : (BitVec.ofInt IntKind.i64.bits 255).toNat = 255 := by decide
  have h : (BitVec.ofInt IntKind.i64.bits X &&& BitVec.ofInt IntKind.i64.bits 255).toNat ≤ 255 := by
    rw [BitVec.toNat_and, e]; exact Nat.and_le_right
  rw [IntKind.wrap_i64]
  omega
theorem setc1 {w : World} {b : Nat} {T : TypeId} {a0 a1 a2 v : Value} (h : w.heap[b]? = some (.cells #[a0, a1, a2] T (0, 0))) : (w.setCell ⟨b, 1, none⟩ v).heap[b]? = some (.cells #[a0, v, a2] T (0, 0)) := by
  have := heap_setCell_same w b 1 _ T v h
  simpa using this
theorem setc2 {w : World} {b : Nat} {T : TypeId} {a0 a1 a2 v : Value} (h : w.heap[b]? = some (.cells #[a0, a1, a2] T (0, 0))) : (w.setCell ⟨b, 2, none⟩ v).heap[b]? = some (.cells #[a0, a1, v] T (0, 0)) := by
  have := heap_setCell_same w b 2 _ T v h
  simpa using this

set_option maxHeartbeats 4000000 in
theorem l01Byte_any {b c : Nat} {A : Option Addr} {bs : List Int} {w : World} (R : RY w A bs) (C : CurE b A c bs w) (hl : bs.length ≤ 1048576) :
    Calls Tryz.prog 59 #[.pointer (some ⟨b, 0, none⟩)] w (DrawPost b A c bs 256 w) := by
  obtain ⟨i, h, hi, hb⟩ := C
  have c2 := cell_blk (j := 2) (v := .int .i64 h) hb rfl
  have f2 := frozen_blk (j := 2) hb
  have lb := (Array.getElem?_eq_some_iff.1 hb).1
  go_enter Tryz.func59, Tryz.ntmps59
  go_wp2
  obtain ⟨h2, hh2⟩ : ∃ z, wrap64 (wrap64 (h * 6364136223846793005) + 1442695040888963407) = z := ⟨_, rfl⟩
  rw [hh2]
  have hb2 := setc2 (v := .int .i64 h2) hb
  have K0 : w.grownBy (w.setCell ⟨b, 2, none⟩ (.int .i64 h2)) (some b) := gb_set (gb_below (Below.refl _ _))
  have Rw : RY (w.setCell ⟨b, 2, none⟩ (.int .i64 h2)) A bs := R.set_ hb
  obtain ⟨W, hW⟩ : ∃ W, w.setCell ⟨b, 2, none⟩ (.int .i64 h2) = W := ⟨_, rfl⟩
  rw [hW] at hb2 K0 Rw ⊢
  clear c2 f2 lb hb hh2 hW R
  have c0 := cell_blk (j := 0) (v := .slice A bs.length c) hb2 rfl
  have c1 := cell_blk (j := 1) (v := .int .i64 i) hb2 rfl
  have c2 := cell_blk (j := 2) (v := .int .i64 h2) hb2 rfl
  have lb := (Array.getElem?_eq_some_iff.1 hb2).1
  ((first | (with_reducible refine wp_region_calm2 (by kernel_rfl) (by kernel_rfl) ?_) | refine wp_region_calm (by kernel_rfl) (by kernel_rfl) ?_); (repeat (go_big_quiet_step (first | fail))); refine wpQuiet_nil ?_; rintro _ ⟨y, rfl⟩)
  clear c0 c1 c2 lb
  obtain ⟨W1, hW⟩ : ∃ Z, ov W y = Z := ⟨_, rfl⟩
  replace hb2 := ov_blk (x := y) hb2
  replace K0 := gb_ov y K0
  replace Rw := Rw.below (below_ov W y (Below.refl _ _) (Nat.le_refl _))
  rw [hW] at hb2 K0 Rw ⊢
  clear hW
  obtain ⟨x0, hx0⟩ : ∃ z, bits .and .i64 (bits .xor .i64 (h2 / 8589934592) (h2 / 35184372088832)) 255 = z := ⟨_, rfl⟩
  rw [hx0]
  have hx := and255 (bits .xor .i64 (h2 / 8589934592) (h2 / 35184372088832))
  rw [hx0] at hx
  clear hx0
  have c0 := cell_blk (j := 0) (v := .slice A bs.length c) hb2 rfl
  have c1 := cell_blk (j := 1) (v := .int .i64 i) hb2 rfl
  have lb := (Array.getElem?_eq_some_iff.1 hb2).1
  go_wp2
  ((first | (with_reducible refine wp_region_calm2 (by kernel_rfl) (by kernel_rfl) ?_) | refine wp_region_calm (by kernel_rfl) (by kernel_rfl) ?_); (repeat (go_big_quiet_step (first | fail))); refine wpQuiet_nil ?_; rintro _ ⟨y, rfl⟩)
  clear c0 c1 lb
  obtain ⟨W2, hW⟩ : ∃ Z, ov W1 y = Z := ⟨_, rfl⟩
  replace hb2 := ov_blk (x := y) hb2
  replace K0 := gb_ov y K0
  replace Rw := Rw.below (below_ov W1 y (Below.refl _ _) (Nat.le_refl _))
  rw [hW] at hb2 K0 Rw ⊢
  clear hW
  by_cases hlt : i < bs.length
  · obtain ⟨g, o, rfl, hg, z0, z1, z2⟩ := Rw i hlt
    have c0 := cell_blk (j := 0) (v := .slice (some ⟨g, o, none⟩) bs.length c) hb2 rfl
    have c1 := cell_blk (j := 1) (v := .int .i64 i) hb2 rfl
    have lb := (Array.getElem?_eq_some_iff.1 hb2).1
    go_wp2
    ((first | (with_reducible refine wp_region_calm2 (by kernel_rfl) (by kernel_rfl) ?_) | refine wp_region_calm (by kernel_rfl) (by kernel_rfl) ?_); (repeat (go_big_quiet_step (first | fail))); refine wpQuiet_nil ?_; rintro _ ⟨y, rfl⟩)
    clear c0 c1 lb
    obtain ⟨W3, hW⟩ : ∃ Z, ov W2 y = Z := ⟨_, rfl⟩
    replace hb2 := ov_blk (x := y) hb2
    replace K0 := gb_ov y K0
    replace Rw := Rw.below (below_ov W2 y (Below.refl _ _) (Nat.le_refl _))
    rw [hW] at hb2 K0 Rw ⊢
    clear hW
    obtain ⟨x1, hx1⟩ : ∃ z, bits .and .i64 (x0 + bs[i]) 255 = z := ⟨_, rfl⟩
    have hx2 := and255 (x0 + bs[i])
    rw [hx1] at hx2 ⊢
    clear hx1 z0
    have c1 := cell_blk (j := 1) (v := .int .i64 i) hb2 rfl
    have f1 := frozen_blk (j := 1) hb2
    have lb := (Array.getElem?_eq_some_iff.1 hb2).1
    have HB := Lib.hid (setc1 (v := .int .i64 (i + 1 : Nat)) hb2)
    have HK := Lib.hid (gb_set (i := 1) (v := .int .i64 (i + 1 : Nat)) K0)
    clear hb2 K0 Rw
    go_wp2
    go_ret
    exact ⟨x1, rfl, ⟨by omega, by omega⟩, ⟨i + 1, h2, by omega, by simpa using HB.out⟩, by simpa using HK.out⟩
  · go_wp2
    go_ret
    exact ⟨x0, rfl, ⟨by omega, by omega⟩, ⟨i, h2, hi, hb2⟩, K0⟩

theorem RY.thru {w w' : World} {A A1 : Option Addr} {bs bs1 : List Int} {b c : Nat} (h : RY w A bs) (C : CurE b A1 c bs1 w) (K : w.grownBy w' (some b)) : RY w' A bs := fun k hk => by
  obtain ⟨g, o, h1, h2, h3, h4⟩ := h k hk
  obtain ⟨i, y, _, hb⟩ := C
  have hne : g ≠ b := by
    rintro rfl
    have q : (#[Value.slice A1 bs1.length c, .int .i64 i, .int .i64 y] : Array Value)[o + k]? = some (.int .u8 bs[k]) := by simpa [World.cell?, hb] using h3
    have hl := (Array.getElem?_eq_some_iff.1 q).1
    simp at hl
    have : o + k = 0 ∨ o + k = 1 ∨ o + k = 2 := by omega
    rcases this with e | e | e <;> rw [e] at q <;> simp at q
  refine ⟨g, o, h1, Nat.lt_of_lt_of_le h2 K.size, ?_, h4⟩
  rw [← h3]
  exact World.cell?_of_block (K.block g h2 (fun e => hne (by injection e)))

set_option maxHeartbeats 2000000 in
theorem below_small {b c : Nat} {A : Option Addr} {bs : List Int} {n : Int} {w : World} (R : RY w A bs) (C : CurE b A c bs w) (hl : bs.length ≤ 1048576) (hn : 0 < n ∧ n ≤ 256) :
    Calls Tryz.prog 65 #[.pointer (some ⟨b, 0, none⟩), .int .i64 n] w (DrawPost b A c bs n w) := by
  have hn1 := hn.1
  have hn2 := hn.2
  go_enter Tryz.func65, Tryz.ntmps65
  go_wp2_with fail
  refine (l01Byte_any R C hl).mono ?_
  rintro e W1 ⟨x, rfl, hx, C1, K⟩
  go_wp2
  go_ret
  exact ⟨_, rfl, ⟨Int.emod_nonneg _ (by omega), Int.emod_lt_of_pos _ hn1⟩, C1, K⟩
set_option maxHeartbeats 2000000 in
theorem below_big {b c : Nat} {A : Option Addr} {bs : List Int} {n : Int} {w : World} (R : RY w A bs) (C : CurE b A c bs w) (hl : bs.length ≤ 1048576) (hn : 256 < n ∧ n ≤ 1000000) :
    Calls Tryz.prog 65 #[.pointer (some ⟨b, 0, none⟩), .int .i64 n] w (DrawPost b A c bs n w) := by
  have hn1 := hn.1
  have hn2 := hn.2
  go_enter Tryz.func65, Tryz.ntmps65
  go_wp2_with fail
  refine (l01Byte_any R C hl).mono ?_
  rintro e W1 ⟨x, rfl, ⟨hx0, hx1⟩, C1, K1⟩
  have R1 := R.thru C K1
  clear R C
  go_wp2_with fail
  refine (l01Byte_any R1 C1 hl).mono ?_
  rintro e W2 ⟨y, rfl, ⟨hy0, hy1⟩, C2, K⟩
  have R2 := R1.thru C1 K
  have K2 := gb_trans K1 K
  clear R1 C1 K K1
  go_wp2_with fail
  refine (l01Byte_any R2 C2 hl).mono ?_
  rintro e W3 ⟨z, rfl, ⟨hz0, hz1⟩, C3, K⟩
  have R3 := R2.thru C2 K
  have K3 := gb_trans K2 K
  clear R2 C2 K K2
  go_wp2_with fail
  refine (l01Byte_any R3 C3 hl).mono ?_
  rintro e W4 ⟨v, rfl, ⟨hv0, hv1⟩, C4, K⟩
  have K4 := gb_trans K3 K
  clear R3 C3 K K3
  go_wp2
  go_ret
  exact ⟨_, rfl, ⟨Int.emod_nonneg _ (by omega), Int.emod_lt_of_pos _ (by omega)⟩, C4, K4⟩

/-- What a new cursor is. -/
def NewPost (A : Option Addr) (c : Nat) (bs : List Int) (w : World) (e : Ending) (w' : World) : Prop := ∃ b, e = .returned (.pointer (some ⟨b, 0, none⟩)) ∧ w.heap.size ≤ b ∧ CurE b A c bs w' ∧ Below w.heap.size w w'
set_option maxRecDepth 100000 in
set_option maxHeartbeats 4000000 in
theorem l01New_any {c : Nat} {A : Option Addr} {bs : List Int} {w : World} (R : RY w A bs) (hl : bs.length ≤ 1048576) :
    Calls Tryz.prog 44 #[.slice A bs.length c] w (NewPost A c bs w) := by
  go_enter Tryz.func44, Tryz.ntmps44
  go_wp2
  go_loopw [3, 4] (fun h i wr => ∃ (k : Nat) (z : Int), k ≤ bs.length ∧ i = .int .i64 k ∧ h = .int .i64 z ∧ Below w.heap.size w wr) (fun _ i _ => bs.length - (intOf i).toNat)
  case atStart => exact ⟨0, _, Nat.zero_le _, rfl, rfl, Below.refl _ _⟩
  case round =>
    obtain ⟨k, z, hk, rfl, rfl, hb⟩ := hrel
    have hbs := hb.size
    by_cases hlt : k < bs.length
    · by_cases h4 : k < 4000
      · obtain ⟨g, o, rfl, hg, z0, z1, z2⟩ := (R.below hb) k hlt
        clear R
        go_wp2
        go_roundw
        case rel => exact ⟨k + 1, _, by omega, by go_num, rfl, (by repeat (first | exact hb | refine bO ?_ | refine bA ?_ | refine bS ?_ | refine bD ?_ | refine bN ?_))⟩
        case measure => simp [intOf]; omega
      · go_wp2
        go_ret
        exact ⟨wr.heap.size, rfl, hbs, ⟨0, z, Nat.zero_le _, heap_alloc_new _ _⟩, hb.alloc hbs _⟩
    · go_wp2
      go_ret
      exact ⟨wr.heap.size, rfl, hbs, ⟨0, z, Nat.zero_le _, heap_alloc_new _ _⟩, hb.alloc hbs _⟩
end Go.Proofs.YtabmfaamadbefaaGreat
/- The cursor of the reference's draws, made anew; a number. Condition: the code has at most 2^20 bytes. -/
set_option linter.unusedVariables false
set_option linter.unusedSimpArgs false
set_option linter.unusedSectionVars false
namespace Go.Proofs.YtabmfaamadbefaaGreat
open Go.RowKit
theorem RY.ov {w : World} {A : Option Addr} {bs : List Int} (h : RY w A bs) (x : More) : RY (ov w x) A bs := h.below (below_ov w x (Below.refl _ _) (Nat.le_refl _))
theorem CurE.ov {b c : Nat} {A : Option Addr} {bs : List Int} {w : World} (h : CurE b A c bs w) (x : More) : CurE b A c bs (ov w x) := h.below (below_ov w x (Below.refl _ _) (Nat.le_refl _))
theorem CurE.lt {b c : Nat} {A : Option Addr} {bs : List Int} {w : World} (h : CurE b A c bs w) : b < w.heap.size := by
  obtain ⟨i, h0, hi, hh⟩ := h
  exact (Array.getElem?_eq_some_iff.1 hh).1
theorem CurE.set_ {b c r i : Nat} {A : Option Addr} {bs : List Int} {w : World} {v : Value} (h : CurE b A c bs w) (hne : some r ≠ some b) : CurE b A c bs (w.setCell ⟨r, i, none⟩ v) := by
  obtain ⟨k, h0, hi, hh⟩ := h
  exact ⟨k, h0, hi, (heap_setCell_other _ ⟨r, i, none⟩ _ _ (fun e => hne (by rw [e]))).trans hh⟩
theorem gb_new {w wr : World} {o : Option Nat} {r i : Nat} {v : Value} (h : w.grownBy wr o) (hr : w.heap.size ≤ r) : w.grownBy (wr.setCell ⟨r, i, none⟩ v) o :=
  ⟨h.os, h.tape, h.output, by simpa using h.size, fun k hk hne => (heap_setCell_other _ _ _ _ (by show k ≠ r; omega)).trans (h.block k hk hne)⟩
set_option maxHeartbeats 2000000 in
theorem l26New_any {c : Nat} {A : Option Addr} {bs : List Int} {n : Int} {w : World} (R : RY w A bs) (hl : bs.length ≤ 1048576) (hn : 0 ≤ n ∧ n ≤ 1000) :
    Calls Tryz.prog 58 #[.slice A bs.length c, .int .i64 n] w (NewPost A c bs w) := by
  have hn1 := hn.1
  have hn2 := hn.2
  go_enter Tryz.func58, Tryz.ntmps58
  go_wp2_with fail
  refine (l01New_any R hl).mono ?_
  rintro e W1 ⟨b, rfl, hb, C, K⟩
  have R1 := R.below K
  clear R
  go_wp2
  go_loopw [6] (fun i wr => ∃ k : Nat, (k : Int) ≤ n ∧ i = .int .i64 k ∧ CurE b A c bs wr ∧ RY wr A bs ∧ Below w.heap.size w wr) (fun i _ => n.toNat - (intOf i).toNat)
  case atStart => exact ⟨0, hn1, rfl, C, R1, K⟩
  case round =>
    obtain ⟨k, hk, rfl, C1, R2, hb1⟩ := hrel
    by_cases hlt : (k : Int) < n
    · go_wp2_with fail
      refine (l01Byte_any R2 C1 hl).mono ?_
      rintro e W2 ⟨x, rfl, hx, C2, K2⟩
      have R3 := R2.thru C1 K2
      have hb2 := gb_low hb1 K2 hb (Nat.le_refl _)
      clear C C1 R1 R2
      go_wp2
      go_roundw
      case rel => exact ⟨k + 1, by omega, by go_num, C2, R3, hb2⟩
      case measure => simp [intOf]; omega
    · go_wp2
      go_ret
      exact ⟨b, rfl, hb, C1, hb1⟩

set_option maxHeartbeats 2000000 in
theorem MakeNum_any {c : Nat} {A : Option Addr} {bs : List Int} {n : Int} {w : World} (R : RY w A bs) (hl : bs.length ≤ 1048576) (hn : 0 ≤ n ∧ n ≤ 1000) :
    Calls Tryz.prog 19 #[.slice A bs.length c, .int .i64 n] w (fun e w' => ∃ x : Int, e = .returned (.int .i64 x) ∧ (0 ≤ x ∧ x < 65536) ∧ Below w.heap.size w w') := by
  go_enter Tryz.func19, Tryz.ntmps19
  go_wp2_with fail
  refine (l26New_any R hl hn).mono ?_
  rintro e W1 ⟨b, rfl, hb, C, K⟩
  have R1 := R.below K
  clear R
  go_wp2_with fail
  refine (l01Byte_any R1 C hl).mono ?_
  rintro e W2 ⟨x, rfl, ⟨hx0, hx1⟩, C2, K2⟩
  have R2 := R1.thru C K2
  have T2 := gb_low K K2 hb (Nat.le_refl _)
  clear R1 C K K2
  go_wp2_with fail
  refine (l01Byte_any R2 C2 hl).mono ?_
  rintro e W3 ⟨y, rfl, ⟨hy0, hy1⟩, C3, K3⟩
  have T3 := gb_low T2 K3 hb (Nat.le_refl _)
  clear R2 C2 T2 K3
  go_wp2
  go_ret
  exact ⟨_, rfl, ⟨by omega, by omega⟩, T3⟩

end Go.Proofs.YtabmfaamadbefaaGreat