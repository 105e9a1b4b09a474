/- FnExactLawOk returns true for every argument, and leaves it as it was. No condition. -/
import Derived.Test.YtncolpeeilgndaaPw
set_option linter.unusedVariables false
set_option linter.unusedSimpArgs false
set_option linter.unusedSectionVars false
namespace Go.Proofs.Ytncolpeeilgndaa
open Go.ChangeShapes Go.WideShapes Go.ChangeAt Go.RowKit Go.Joins

theorem heap_new_at {w : World} {o : Obj} {n : Nat} {r : Option Obj} (hn : n = w.heap.size) (hr : r = some o) : (w.alloc o).heap[n]? = r := by subst hn hr; exact heap_alloc_new _ _
theorem heap_old_at {w : World} {o : Obj} {n : Nat} (hn : n < w.heap.size) : (w.alloc o).heap[n]? = w.heap[n]? := ((Below.refl w.heap.size w).alloc (Nat.le_refl _) o).block n hn
def szL (n : Nat) (left : Int) : Int := if left - n < 0 then -1 else left - n
theorem szPieceS_eq {n c : Nat} {A : Option Addr} {left v : Int} {w : World} (h : Hid (szL n left = v)) (hn : n ≤ 9223372036854775807) (hl : 0 ≤ left ∧ left ≤ 1048576) :
    Calls Try.prog 39 #[.slice A n c, .int .i64 left] w fun e w' => e = .returned (.int .i64 v) ∧ Below w.heap.size w w' := by
  have h' := h.out
  unfold szL at h'
  by_cases hc : left - n < 0
  · rw [if_pos hc] at h'
    subst h'
    go_enter Try.func39, Try.ntmps39
    go_wp2
    go_ret
    exact ⟨rfl, (by repeat (first | exact Below.refl _ _ | refine below_ov _ _ ?_ (by first | omega | (simp [ov_size] <;> omega)) | refine Below.alloc ?_ (by first | omega | (simp [ov_size] <;> omega)) _ | refine Below.setCell ?_ (by first | omega | (simp [ov_size] <;> omega)) _ | refine Below.drew ?_ | refine below_drewN ?_ _))⟩
  · rw [if_neg hc] at h'
    subst h'
    go_enter Try.func39, Try.ntmps39
    go_wp2
    go_ret
    exact ⟨rfl, (by repeat (first | exact Below.refl _ _ | refine below_ov _ _ ?_ (by first | omega | (simp [ov_size] <;> omega)) | refine Below.alloc ?_ (by first | omega | (simp [ov_size] <;> omega)) _ | refine Below.setCell ?_ (by first | omega | (simp [ov_size] <;> omega)) _ | refine Below.drew ?_ | refine below_drewN ?_ _))⟩
theorem szL_bd {n : Nat} {left v : Int} (h : szL n left = v) (hl : 0 ≤ left ∧ left ≤ 1048576) : (v = -1) ∨ (0 ≤ v ∧ v ≤ left ∧ (n : Int) ≤ left) := by unfold szL at h; split at h <;> omega
theorem szLaw_eq {n n2 c c2 : Nat} {A A2 : Option Addr} {v v2 : Int} {w : World} (h : Hid (szL n 1048576 = v)) (h2 : Hid ((if v < 0 then -1 else szL n2 v) = v2)) (hn : n ≤ 9223372036854775807) (hn2 : n2 ≤ 9223372036854775807) :
    Calls Try.prog 12 #[.agg #[.slice A n c, .slice A2 n2 c2], .int .i64 1048576] w fun e w' => e = .returned (.int .i64 v2) ∧ Below w.heap.size w w' := by
  have b1 := szL_bd h.out ⟨by omega, by omega⟩
  by_cases hc : v < 0
  · have e2 : v2 = -1 := by have := h2.out; rw [if_pos hc] at this; exact this.symm
    subst e2
    go_enter Try.func12, Try.ntmps12
    go_wp2_with ((go_at_call 39; (first | (with_reducible refine (calls_ov2 (szPieceS_eq (by exact h) (by omega) ⟨by omega, by omega⟩)).mono ?_) | refine (calls_ov (szPieceS_eq (by exact h) (by omega) ⟨by omega, by omega⟩)).mono ?_); rintro e w' ⟨rfl, x, rfl⟩))
    go_ret
    exact ⟨rfl, (by repeat (first | exact Below.refl _ _ | refine below_ov _ _ ?_ (by first | omega | (simp [ov_size] <;> omega)) | refine Below.alloc ?_ (by first | omega | (simp [ov_size] <;> omega)) _ | refine Below.setCell ?_ (by first | omega | (simp [ov_size] <;> omega)) _ | refine Below.drew ?_ | refine below_drewN ?_ _))⟩
  · have h3 := h2.out
    rw [if_neg hc] at h3
    have H3 := Lib.hid h3
    have b2 := szL_bd h3 ⟨by omega, by omega⟩
    clear h2 h3
    by_cases hc2 : v2 < 0
    · have e2 : v2 = -1 := by omega
      subst e2
      go_enter Try.func12, Try.ntmps12
      go_wp2_with ((go_at_call 39; (first | (with_reducible refine (calls_ov2 (szPieceS_eq (by first | exact h | exact H3) (by omega) ⟨by omega, by omega⟩)).mono ?_) | refine (calls_ov (szPieceS_eq (by first | exact h | exact H3) (by omega) ⟨by omega, by omega⟩)).mono ?_); rintro e w' ⟨rfl, x, rfl⟩))
      go_ret
      exact ⟨rfl, (by repeat (first | exact Below.refl _ _ | refine below_ov _ _ ?_ (by first | omega | (simp [ov_size] <;> omega)) | refine Below.alloc ?_ (by first | omega | (simp [ov_size] <;> omega)) _ | refine Below.setCell ?_ (by first | omega | (simp [ov_size] <;> omega)) _ | refine Below.drew ?_ | refine below_drewN ?_ _))⟩
    · go_enter Try.func12, Try.ntmps12
      go_wp2_with ((go_at_call 39; (first | (with_reducible refine (calls_ov2 (szPieceS_eq (by first | exact h | exact H3) (by omega) ⟨by omega, by omega⟩)).mono ?_) | refine (calls_ov (szPieceS_eq (by first | exact h | exact H3) (by omega) ⟨by omega, by omega⟩)).mono ?_); rintro e w' ⟨rfl, x, rfl⟩))
      go_ret
      exact ⟨rfl, (by repeat (first | exact Below.refl _ _ | refine below_ov _ _ ?_ (by first | omega | (simp [ov_size] <;> omega)) | refine Below.alloc ?_ (by first | omega | (simp [ov_size] <;> omega)) _ | refine Below.setCell ?_ (by first | omega | (simp [ov_size] <;> omega)) _ | refine Below.drew ?_ | refine below_drewN ?_ _))⟩

theorem toPiece_any (g : Q4) (w : World) :
    Calls Try.prog 10 #[.agg #[.int .i64 g.a, .int .i64 g.b, .int .i64 g.c, .int .i64 g.d]] w fun e w' => e = .returned (.agg #[.int .i64 g.a, .int .i64 g.b, .int .i64 g.c, .int .i64 g.d]) ∧ Below w.heap.size w w' := by
  go_enter Try.func10, Try.ntmps10
  go_wp2
  refine bodyPost_ret (v := .agg #[.int .i64 g.a, .int .i64 g.b, .int .i64 g.c, .int .i64 g.d]) (by simp [results, Try.results10, go_sem]) rfl ⟨rfl, ?_⟩
  (repeat (first | exact Below.refl _ _ | refine below_ov _ _ ?_ (by first | omega | (simp [ov_size] <;> omega)) | refine Below.alloc ?_ (by first | omega | (simp [ov_size] <;> omega)) _ | refine Below.setCell ?_ (by first | omega | (simp [ov_size] <;> omega)) _ | refine Below.drew ?_ | refine below_drewN ?_ _))
theorem eqPiece_same (g : Q4) (w : World) :
    Calls Try.prog 64 #[.agg #[.int .i64 g.a, .int .i64 g.b, .int .i64 g.c, .int .i64 g.d], .agg #[.int .i64 g.a, .int .i64 g.b, .int .i64 g.c, .int .i64 g.d]] w fun e w' => e = .returned (.bool true) ∧ Below w.heap.size w w' := by
  go_enter Try.func64, Try.ntmps64
  go_wp2
  go_ret
  exact ⟨rfl, (by repeat (first | exact Below.refl _ _ | refine below_ov _ _ ?_ (by first | omega | (simp [ov_size] <;> omega)) | refine Below.alloc ?_ (by first | omega | (simp [ov_size] <;> omega)) _ | refine Below.setCell ?_ (by first | omega | (simp [ov_size] <;> omega)) _ | refine Below.drew ?_ | refine below_drewN ?_ _))⟩

def From (n : Nat) (A : Option Addr) : Prop := ∀ g o, A = some ⟨g, o, none⟩ → n ≤ g
def PiecesOut (w : World) (xs : List Q4) (e : Ending) (w' : World) : Prop := ∃ A c, e = .returned (.slice A xs.length c) ∧ (RP w' A xs ∧ From w.heap.size A) ∧ Below w.heap.size w w'
theorem RP.set_other {w : World} {A : Option Addr} {xs : List Q4} {b i n : Nat} {v : Value} (h : RP w A xs) (hf : From n A) (hb : b < n) : RP (w.setCell ⟨b, i, none⟩ v) A xs := fun k hk => by
  obtain ⟨g, o, h1, h2, h3, h4, h5, h6⟩ := h k hk
  have hg := hf g o h1
  have he : ∀ off, (w.setCell ⟨b, i, none⟩ v).cell? ⟨g, off, none⟩ = w.cell? ⟨g, off, none⟩ := fun off => World.cell?_of_block (heap_setCell_other _ _ _ _ (show g ≠ b by omega))
  exact ⟨g, o, h1, by simpa using h2, (he _).trans h3, (he _).trans h4, (he _).trans h5, (he _).trans h6⟩
theorem info_piece : (Try.prog.info? 25).map (fun i => (i.zero, i.size, i.bytes)) = some (some (.agg #[.int .i64 0, .int .i64 0, .int .i64 0, .int .i64 0]), 4, 32) := by kernel_rfl
theorem info_piece_parts : ∃ i, Try.prog.info? 25 = some i ∧ i.zero = some (.agg #[.int .i64 0, .int .i64 0, .int .i64 0, .int .i64 0]) ∧ i.size = 4 ∧ i.bytes = 32 := by
  have h := info_piece
  cases hq : Try.prog.info? 25 with
  | none => rw [hq] at h; cases h
  | some i => rw [hq] at h; simp at h; exact ⟨i, rfl, h.1, h.2.1, h.2.2⟩
/-- The first k pieces of a block. -/
def Filled (cur : Array Value) (xs : List Q4) (k : Nat) : Prop := ∀ j (hj : j < xs.length), j < k → cur[j * 4]? = some (.int .i64 xs[j].a) ∧ cur[j * 4 + 1]? = some (.int .i64 xs[j].b) ∧ cur[j * 4 + 2]? = some (.int .i64 xs[j].c) ∧ cur[j * 4 + 3]? = some (.int .i64 xs[j].d)
theorem Filled.next {cur : Array Value} {xs : List Q4} {k : Nat} (h : Filled cur xs k) (hk : k < xs.length) (hs : cur.size = xs.length * 4) :
    Filled ((((cur.setIfInBounds (k * 4) (.int .i64 xs[k].a)).setIfInBounds (k * 4 + 1) (.int .i64 xs[k].b)).setIfInBounds (k * 4 + 2) (.int .i64 xs[k].c)).setIfInBounds (k * 4 + 3) (.int .i64 xs[k].d)) xs (k + 1) := by
  intro j hj hjk
  by_cases e : j = k
  · subst e
    simp only [Array.getElem?_setIfInBounds, Array.size_setIfInBounds]
    refine ⟨?_, ?_, ?_, ?_⟩
    all_goals
      repeat (first | rw [if_pos trivial] | rw [if_pos rfl] | rw [if_neg (by omega)] | rw [if_pos (by omega)])
  · obtain ⟨h0, h1, h2, h3⟩ := h j hj (by omega)
    simp only [Array.getElem?_setIfInBounds, Array.size_setIfInBounds]
    refine ⟨?_, ?_, ?_, ?_⟩
    · rw [if_neg (by omega), if_neg (by omega), if_neg (by omega), if_neg (by omega)]; exact h0
    · rw [if_neg (by omega), if_neg (by omega), if_neg (by omega), if_neg (by omega)]; exact h1
    · rw [if_neg (by omega), if_neg (by omega), if_neg (by omega), if_neg (by omega)]; exact h2
    · rw [if_neg (by omega), if_neg (by omega), if_neg (by omega), if_neg (by omega)]; exact h3

set_option maxHeartbeats 2000000 in
theorem toPieceS_any {xs : List Q4} {A : Option Addr} {c : Nat} {w : World} (R : RP w A xs) (hl : xs.length ≤ 1048576) :
    Calls Try.prog 41 #[.slice A xs.length c] w (PiecesOut w xs) := by
  obtain ⟨i0, hi, hz0, hz1, hz2⟩ := info_piece_parts
  go_enter Try.func41, Try.ntmps41
  go_wp2_with (at_make; refine wpList_make_full _ rfl _ _ 33 rfl w.heap.size 25 i0 (.agg #[.int .i64 0, .int .i64 0, .int .i64 0, .int .i64 0]) 4 Try.underlying33 hi hz0 hz1 _ _ _ _ xs.length rfl rfl rfl rfl (by rw [hz2]; omega) (by unfold maxLen; omega) (Nat.le_refl _) ?_; intro w1 O1 hg1)
  have hb1 : Below w.heap.size w w1 := ⟨hg1.os, hg1.tape, hg1.output, hg1.size, fun k hk => hg1.block k hk (by simp)⟩
  have HB : ∃ cur : Array Value, w1.heap[w.heap.size]? = some (.cells cur 25 (0, 0)) ∧ cur.size = xs.length * 4 := by
    rcases O1.2 with ⟨e, _⟩ | ⟨g, cap, cur, e, _, hg, _, _, hs, _⟩
    · cases e
    · injection e with e1 _ e3
      injection e1 with e1
      injection e1 with e1
      subst e1 e3
      exact ⟨cur, hg, hs⟩
  clear O1 hg1
  go_wp2
  obtain ⟨B, hB⟩ : ∃ B, w.heap.size = B := ⟨_, rfl⟩
  rw [hB] at HB
  have hb1' : Below B w w1 := by rw [← hB]; exact hb1
  generalize hB2 : w.heap.size = B2 at hb1 ⊢
  have hB3 : B2 = B := by omega
  subst hB3
  go_loopw [4] (fun i wr => ∃ k : Nat, k ≤ xs.length ∧ i = .int .i64 k ∧ (∃ cur : Array Value, wr.heap[B2]? = some (.cells cur 25 (0, 0)) ∧ cur.size = xs.length * 4 ∧ Filled cur xs k) ∧ Below B2 w wr) (fun i _ => xs.length - (intOf i).toNat)
  case atStart => exact ⟨0, Nat.zero_le _, rfl, by obtain ⟨cur, h1, h2⟩ := HB; exact ⟨cur, h1, h2, fun j hj h0 => by omega⟩, hb1⟩
  case round =>
    obtain ⟨k, hk, rfl, ⟨cur, hc1, hc2, hc3⟩, hb⟩ := hrel
    have hbs := hb.size
    have hbw : Below w.heap.size w wr := by rw [hB]; exact hb
    have hBl := (Array.getElem?_eq_some_iff.1 hc1).1
    by_cases hlt : k < xs.length
    · obtain ⟨g, o, rfl, hg, z0, z1, z2, z3⟩ := (R.below hbw) k hlt
      have f0 := frozen_blk (j := k * 4) hc1
      have f1 := frozen_blk (j := k * 4 + 1) hc1
      have f2 := frozen_blk (j := k * 4 + 2) hc1
      have f3 := frozen_blk (j := k * 4 + 3) hc1
      obtain ⟨v0, c0⟩ : ∃ v, wr.cell? ⟨B2, k * 4, none⟩ = some v := ⟨_, cell_blk hc1 (Array.getElem?_eq_getElem (by omega))⟩
      obtain ⟨v1, c1⟩ : ∃ v, wr.cell? ⟨B2, k * 4 + 1, none⟩ = some v := ⟨_, cell_blk hc1 (Array.getElem?_eq_getElem (by omega))⟩
      obtain ⟨v2, c2⟩ : ∃ v, wr.cell? ⟨B2, k * 4 + 2, none⟩ = some v := ⟨_, cell_blk hc1 (Array.getElem?_eq_getElem (by omega))⟩
      obtain ⟨v3, c3⟩ : ∃ v, wr.cell? ⟨B2, k * 4 + 3, none⟩ = some v := ⟨_, cell_blk hc1 (Array.getElem?_eq_getElem (by omega))⟩
      have HN := Lib.hid (heap_setCell_same _ B2 (k * 4 + 3) _ 25 (.int .i64 xs[k].d) (heap_setCell_same _ B2 (k * 4 + 2) _ 25 (.int .i64 xs[k].c) (heap_setCell_same _ B2 (k * 4 + 1) _ 25 (.int .i64 xs[k].b) (heap_setCell_same wr B2 (k * 4) cur 25 (.int .i64 xs[k].a) hc1))))
      have HC := Lib.hid (hc3.next hlt hc2)
      have HS := Lib.hid hc2
      have HW := Lib.hid ((((hb.setCell (show B2 ≤ (⟨B2, k * 4, none⟩ : Addr).block from Nat.le_refl _) (.int .i64 xs[k].a)).setCell (show B2 ≤ (⟨B2, k * 4 + 1, none⟩ : Addr).block from Nat.le_refl _) (.int .i64 xs[k].b)).setCell (show B2 ≤ (⟨B2, k * 4 + 2, none⟩ : Addr).block from Nat.le_refl _) (.int .i64 xs[k].c)).setCell (show B2 ≤ (⟨B2, k * 4 + 3, none⟩ : Addr).block from Nat.le_refl _) (.int .i64 xs[k].d))
      have hbs2 : B2 ≤ wr.heap.size := by omega
      clear R hB hb1' HB hbw hc3 hc2 hc1 hb
      go_wp2_with ((go_at_call 10; (first | (with_reducible refine (calls_ov2 (toPiece_any xs[k] _)).mono ?_) | refine (calls_ov (toPiece_any xs[k] _)).mono ?_); rintro e w' ⟨rfl, x, rfl⟩))
      go_roundw
      case rel => exact ⟨k + 1, by omega, by go_num, ⟨_, ov_blk HN.out, by have := HS.out; simpa using this, HC.out⟩, below_ov _ _ HW.out (by simpa using hbs2)⟩
      case measure => simp [intOf] <;> omega
    · obtain rfl : k = xs.length := by omega
      go_wp2
      go_ret
      exact ⟨some ⟨B2, 0, none⟩, xs.length, rfl, ⟨fun j hj => by
        obtain ⟨h0, h1, h2, h3⟩ := hc3 j hj hj
        exact ⟨B2, 0, rfl, hBl, by rw [Nat.zero_add]; exact cell_blk hc1 h0, by rw [Nat.zero_add]; exact cell_blk hc1 h1, by rw [Nat.zero_add]; exact cell_blk hc1 h2, by rw [Nat.zero_add]; exact cell_blk hc1 h3⟩, fun g o e => by injection e with e; injection e with e _; omega⟩, by rw [hB]; exact hb⟩

set_option maxHeartbeats 1000000 in
theorem eqPieceS_same {xs : List Q4} {A1 A2 : Option Addr} {c1 c2 : Nat} {w : World} (R1 : RP w A1 xs) (R2 : RP w A2 xs) (hx : xs.length ≤ 1000000000) :
    Calls Try.prog 43 #[.slice A1 xs.length c1, .slice A2 xs.length c2] w fun e w' => e = .returned (.bool true) ∧ Below w.heap.size w w' := by
  go_enter Try.func43, Try.ntmps43
  go_wp2
  go_loopw [5] (fun i wr => ∃ k : Nat, k ≤ xs.length ∧ i = .int .i64 k ∧ Below w.heap.size w wr) (fun i _ => xs.length - (intOf i).toNat)
  case atStart => exact ⟨0, Nat.zero_le _, rfl, Below.refl _ _⟩
  case round =>
    obtain ⟨k, hk, rfl, hb⟩ := hrel
    have hbs := hb.size
    by_cases hlt : k < xs.length
    · obtain ⟨g1, o1, rfl, hg1, z0, z1, z2, z3⟩ := (R1.below hb) k hlt
      obtain ⟨g2, o2, rfl, hg2, y0, y1, y2, y3⟩ := (R2.below hb) k hlt
      clear R1 R2
      go_wp2
      ((first | (with_reducible refine wp_region_calm2 (by kernel_rfl) (by kernel_rfl) ?_) | refine wp_region_calm (by kernel_rfl) (by kernel_rfl) ?_); (repeat (go_big_quiet_step (first | (go_at_call 64; exact calm_below (eqPiece_same xs[k] _))))); refine wpQuiet_nil ?_; rintro _ ⟨y, rfl⟩)
      go_wp2
      go_roundw
      case rel => exact ⟨k + 1, by omega, by go_num, (by repeat (first | exact hb | refine below_ov _ _ ?_ (by first | omega | (simp [ov_size] <;> omega)) | refine Below.alloc ?_ (by first | omega | (simp [ov_size] <;> omega)) _ | refine Below.setCell ?_ (by first | omega | (simp [ov_size] <;> omega)) _ | refine Below.drew ?_ | refine below_drewN ?_ _))⟩
      case measure => simp [intOf] <;> omega
    · obtain rfl : k = xs.length := by omega
      go_wp2
      go_ret
      exact ⟨rfl, hb⟩
theorem eqLaw_same {xs ys : List Q4} {A1 A2 B1 B2 : Option Addr} {c1 c2 d1 d2 : Nat} {w : World} (R1 : RP w A1 xs) (R2 : RP w A2 ys) (S1 : RP w B1 xs) (S2 : RP w B2 ys) (hx : xs.length ≤ 1000000000) (hy : ys.length ≤ 1000000000) :
    Calls Try.prog 16 #[.agg #[.slice A1 xs.length c1, .slice A2 ys.length c2], .agg #[.slice B1 xs.length d1, .slice B2 ys.length d2]] w fun e w' => e = .returned (.bool true) ∧ Below w.heap.size w w' := by
  go_enter Try.func16, Try.ntmps16
  go_wp2_with ((go_at_call 43; (first | (with_reducible refine (calls_ov2 (eqPieceS_same (by first | exact R1.below (by repeat (first | exact Below.refl _ _ | refine below_ov _ _ ?_ (by first | omega | (simp [ov_size] <;> omega)) | refine Below.alloc ?_ (by first | omega | (simp [ov_size] <;> omega)) _ | refine Below.setCell ?_ (by first | omega | (simp [ov_size] <;> omega)) _ | refine Below.drew ?_ | refine below_drewN ?_ _)) | exact R2.below (by repeat (first | exact Below.refl _ _ | refine below_ov _ _ ?_ (by first | omega | (simp [ov_size] <;> omega)) | refine Below.alloc ?_ (by first | omega | (simp [ov_size] <;> omega)) _ | refine Below.setCell ?_ (by first | omega | (simp [ov_size] <;> omega)) _ | refine Below.drew ?_ | refine below_drewN ?_ _))) (by first | exact S1.below (by repeat (first | exact Below.refl _ _ | refine below_ov _ _ ?_ (by first | omega | (simp [ov_size] <;> omega)) | refine Below.alloc ?_ (by first | omega | (simp [ov_size] <;> omega)) _ | refine Below.setCell ?_ (by first | omega | (simp [ov_size] <;> omega)) _ | refine Below.drew ?_ | refine below_drewN ?_ _)) | exact S2.below (by repeat (first | exact Below.refl _ _ | refine below_ov _ _ ?_ (by first | omega | (simp [ov_size] <;> omega)) | refine Below.alloc ?_ (by first | omega | (simp [ov_size] <;> omega)) _ | refine Below.setCell ?_ (by first | omega | (simp [ov_size] <;> omega)) _ | refine Below.drew ?_ | refine below_drewN ?_ _))) (by first | exact hx | exact hy))).mono ?_) | refine (calls_ov (eqPieceS_same (by first | exact R1.below (by repeat (first | exact Below.refl _ _ | refine below_ov _ _ ?_ (by first | omega | (simp [ov_size] <;> omega)) | refine Below.alloc ?_ (by first | omega | (simp [ov_size] <;> omega)) _ | refine Below.setCell ?_ (by first | omega | (simp [ov_size] <;> omega)) _ | refine Below.drew ?_ | refine below_drewN ?_ _)) | exact R2.below (by repeat (first | exact Below.refl _ _ | refine below_ov _ _ ?_ (by first | omega | (simp [ov_size] <;> omega)) | refine Below.alloc ?_ (by first | omega | (simp [ov_size] <;> omega)) _ | refine Below.setCell ?_ (by first | omega | (simp [ov_size] <;> omega)) _ | refine Below.drew ?_ | refine below_drewN ?_ _))) (by first | exact S1.below (by repeat (first | exact Below.refl _ _ | refine below_ov _ _ ?_ (by first | omega | (simp [ov_size] <;> omega)) | refine Below.alloc ?_ (by first | omega | (simp [ov_size] <;> omega)) _ | refine Below.setCell ?_ (by first | omega | (simp [ov_size] <;> omega)) _ | refine Below.drew ?_ | refine below_drewN ?_ _)) | exact S2.below (by repeat (first | exact Below.refl _ _ | refine below_ov _ _ ?_ (by first | omega | (simp [ov_size] <;> omega)) | refine Below.alloc ?_ (by first | omega | (simp [ov_size] <;> omega)) _ | refine Below.setCell ?_ (by first | omega | (simp [ov_size] <;> omega)) _ | refine Below.drew ?_ | refine below_drewN ?_ _))) (by first | exact hx | exact hy))).mono ?_); rintro e w' ⟨rfl, x, rfl⟩))
  go_ret
  exact ⟨rfl, (by repeat (first | exact Below.refl _ _ | refine below_ov _ _ ?_ (by first | omega | (simp [ov_size] <;> omega)) | refine Below.alloc ?_ (by first | omega | (simp [ov_size] <;> omega)) _ | refine Below.setCell ?_ (by first | omega | (simp [ov_size] <;> omega)) _ | refine Below.drew ?_ | refine below_drewN ?_ _))⟩
/-- What toLaw leaves. -/
def LawOut (w : World) (xs ys : List Q4) (e : Ending) (w' : World) : Prop := ∃ A c A2 c2, e = .returned (.agg #[.slice A xs.length c, .slice A2 ys.length c2]) ∧ RP w' A xs ∧ RP w' A2 ys ∧ Below w.heap.size w w'
theorem toLaw_any {xs ys : List Q4} {A A2 : Option Addr} {c c2 : Nat} {w : World} (R : RP w A xs) (R2 : RP w A2 ys) (hl : xs.length ≤ 1048576) (hl2 : ys.length ≤ 1048576) :
    Calls Try.prog 14 #[.agg #[.slice A xs.length c, .slice A2 ys.length c2]] w (LawOut w xs ys) := by
  obtain ⟨V, hV⟩ : ∃ V, ((w.alloc (.cells #[.slice A xs.length c, .slice A2 ys.length c2] 30)).alloc (.cells #[.slice none 0 0, .slice none 0 0] 35)).alloc (.cells #[.slice none 0 0, .slice none 0 0] 35) = V := ⟨_, rfl⟩
  have TV : Below w.heap.size w V := by rw [← hV]; exact (by repeat (first | exact Below.refl _ _ | refine below_ov _ _ ?_ (by first | omega | (simp [ov_size] <;> omega)) | refine Below.alloc ?_ (by first | omega | (simp [ov_size] <;> omega)) _ | refine Below.setCell ?_ (by first | omega | (simp [ov_size] <;> omega)) _ | refine Below.drew ?_ | refine below_drewN ?_ _))
  have sV : V.heap.size = w.heap.size + 1 + 1 + 1 := by rw [← hV]; simp
  have X0 : V.heap[w.heap.size]? = some (.cells #[.slice A xs.length c, .slice A2 ys.length c2] 30 (0, 0)) := by rw [← hV]; exact (heap_old_at (by simp; omega)).trans ((heap_old_at (by simp)).trans (heap_alloc_new _ _))
  have X1 : V.heap[w.heap.size + 1]? = some (.cells #[.slice none 0 0, .slice none 0 0] 35 (0, 0)) := by rw [← hV]; exact (heap_old_at (by simp)).trans (heap_new_at (by simp) rfl)
  have X2 : V.heap[w.heap.size + 1 + 1]? = some (.cells #[.slice none 0 0, .slice none 0 0] 35 (0, 0)) := by rw [← hV]; exact heap_new_at (by simp) rfl
  have HV := Lib.hid hV
  clear hV
  go_enter Try.func14, Try.ntmps14
  go_wp2_with fail
  rw [HV.out]
  have hne : w.heap.size + 1 + 1 ≠ w.heap.size + 1 := by omega
  have h0 : w.heap.size ≤ w.heap.size + 1 := by omega
  have h1 : w.heap.size ≤ w.heap.size + 1 + 1 := by omega
  have hn0 : w.heap.size ≠ w.heap.size + 1 + 1 := by omega
  have hb2V : w.heap.size + 1 + 1 < V.heap.size := by omega
  have hb1V : w.heap.size + 1 < V.heap.size := by omega
  generalize w.heap.size + 1 + 1 = b2 at X2 hne h1 hn0 hb2V ⊢
  generalize w.heap.size + 1 = b1 at X1 hne h0 hb1V ⊢
  refine (toPieceS_any (R.below TV) hl).mono ?_
  rintro e W1 ⟨A', c', rfl, ⟨P1, F1⟩, K⟩
  have B0 := Lib.hid ((K.block _ (Array.getElem?_eq_some_iff.1 X0).1).trans X0)
  have B1 := Lib.hid ((K.block _ (Array.getElem?_eq_some_iff.1 X1).1).trans X1)
  have B2 := Lib.hid ((K.block _ (Array.getElem?_eq_some_iff.1 X2).1).trans X2)
  have T1 := TV.trans (K.mono TV.size)
  have hVW := K.size
  clear X0 X1 X2 K
  have q0 := cell_blk (j := 0) (v := .slice A xs.length c) B0.out rfl
  have q1 := cell_blk (j := 1) (v := .slice A2 ys.length c2) B0.out rfl
  have ql := (Array.getElem?_eq_some_iff.1 B0.out).1
  have y0 := cell_blk (j := 0) (v := .slice none 0 0) B2.out rfl
  have y1 := cell_blk (j := 1) (v := .slice none 0 0) B2.out rfl
  have yf0 := frozen_blk (j := 0) B2.out
  have yf1 := frozen_blk (j := 1) B2.out
  have yl := (Array.getElem?_eq_some_iff.1 B2.out).1
  go_wp2_with fail
  obtain ⟨W2, hW⟩ : ∃ W2, W2 = W1.setCell ⟨b2, 0, none⟩ (.slice A' xs.length c') := ⟨_, rfl⟩
  rw [← hW]
  have C0 : W2.heap[w.heap.size]? = some (.cells #[.slice A xs.length c, .slice A2 ys.length c2] 30 (0, 0)) := by rw [hW]; exact (heap_setCell_other _ _ _ _ hn0).trans B0.out
  have C1 : W2.heap[b1]? = some (.cells #[.slice none 0 0, .slice none 0 0] 35 (0, 0)) := by rw [hW]; exact (heap_setCell_other _ _ _ _ (Ne.symm hne)).trans B1.out
  have C2 : W2.heap[b2]? = some (.cells #[.slice A' xs.length c', .slice none 0 0] 35 (0, 0)) := by rw [hW]; exact heap_setCell_same _ _ 0 _ _ _ B2.out
  have T2 : Below w.heap.size w W2 := by rw [hW]; exact T1.setCell h1 _
  have l2V : b2 < V.heap.size := by have := hb2V; omega
  have l1V : b1 < V.heap.size := by have := hb1V; omega
  have P2 := P1.set_other (i := 0) (v := .slice A' xs.length c') F1 l2V
  rw [← hW] at P2
  clear q0 q1 ql y0 y1 yf0 yf1 yl B0 B1 B2 P1
  have sW : V.heap.size ≤ W2.heap.size := by rw [hW]; have := T1.size; simpa using hVW
  refine (toPieceS_any (R2.below T2) hl2).mono ?_
  rintro e W3 ⟨A'', c'', rfl, ⟨P3, F3⟩, K⟩
  have D0 := Lib.hid ((K.block _ (Array.getElem?_eq_some_iff.1 C0).1).trans C0)
  have D1 := Lib.hid ((K.block _ (Array.getElem?_eq_some_iff.1 C1).1).trans C1)
  have D2 := Lib.hid ((K.block _ (Array.getElem?_eq_some_iff.1 C2).1).trans C2)
  have T3 := T2.trans (K.mono T2.size)
  have P4 := P2.below K
  have y0 := cell_blk (j := 0) (v := .slice A' xs.length c') D2.out rfl
  have y1 := cell_blk (j := 1) (v := .slice none 0 0) D2.out rfl
  have yf1 := frozen_blk (j := 1) D2.out
  have yl := (Array.getElem?_eq_some_iff.1 D2.out).1
  have z0 := cell_blk (j := 0) (v := .slice none 0 0) D1.out rfl
  have z1 := cell_blk (j := 1) (v := .slice none 0 0) D1.out rfl
  have zf0 := frozen_blk (j := 0) D1.out
  have zf1 := frozen_blk (j := 1) D1.out
  have zl := (Array.getElem?_eq_some_iff.1 D1.out).1
  have G3 := F3
  have l2W : b2 < W2.heap.size := by omega
  have l1W : b1 < W2.heap.size := by omega
  have Q1 := Lib.hid (((P4.set_other (b := b2) (i := 1) (v := .slice A'' ys.length c'') F1 l2V).set_other (b := b1) (i := 0) (v := .slice A' xs.length c') F1 l1V).set_other (b := b1) (i := 1) (v := .slice A'' ys.length c'') F1 l1V)
  have Q2 := Lib.hid (((P3.set_other (b := b2) (i := 1) (v := .slice A'' ys.length c'') F3 l2W).set_other (b := b1) (i := 0) (v := .slice A' xs.length c') F3 l1W).set_other (b := b1) (i := 1) (v := .slice A'' ys.length c'') F3 l1W)
  have Q3 := Lib.hid (((T3.setCell (show w.heap.size ≤ (⟨b2, 1, none⟩ : Addr).block from h1) (.slice A'' ys.length c'')).setCell (show w.heap.size ≤ (⟨b1, 0, none⟩ : Addr).block from h0) (.slice A' xs.length c')).setCell (show w.heap.size ≤ (⟨b1, 1, none⟩ : Addr).block from h0) (.slice A'' ys.length c''))
  have hne' : b1 ≠ b2 := Ne.symm hne
  clear C0 C1 C2 K hW P2 P3 P4 T1 T2 D0 D1 D2
  go_wp2
  refine bodyPost_ret (v := .agg #[.slice A' xs.length c', .slice A'' ys.length c'']) (by simp [results, Try.results14, go_sem, y0, y1, yl, z0, z1, zl, hne, hne']) rfl ⟨A', c', A'', c'', rfl, Q1.out, Q2.out, Q3.out⟩
def GLaw (xs ys : List Q4) (_ : World) (v : Value) (w : World) : Prop := ∃ A c A2 c2, v = .agg #[.slice A xs.length c, .slice A2 ys.length c2] ∧ RP w A xs ∧ RP w A2 ys
theorem glaw_stable {nd js : List Nat} {wd : Bool} {xs ys : List Q4} : RD.stable (.rel nd js wd (IsOw (GLaw xs ys))) := by
  rintro w0 l w x ⟨v, h1, A, c, A2, c2, h2, h3, h4⟩
  exact ⟨v, h1, A, c, A2, c2, h2, h3.below (below_ov _ _ (Below.refl _ _) (Nat.le_refl _)), h4.below (below_ov _ _ (Below.refl _ _) (Nat.le_refl _))⟩

set_option maxRecDepth 100000 in
set_option maxHeartbeats 4000000 in
theorem law2_any {xs ys : List Q4} {A A2 : Option Addr} {c c2 : Nat} (w : World) (R : RP w A xs) (R2 : RP w A2 ys) (hl : xs.length ≤ 9223372036854775807) (hl2 : ys.length ≤ 9223372036854775807) (B : ∀ x ∈ xs, QBd x) (B2 : ∀ x ∈ ys, QBd x) :
    Calls Try.prog 4 #[.agg #[.slice A xs.length c, .slice A2 ys.length c2]] w fun e w' => e = .returned (.bool true) ∧ Below w.heap.size w w' := by
  obtain ⟨z, hz⟩ : ∃ z, szL xs.length 1048576 = z := ⟨_, rfl⟩
  obtain ⟨z2, hz2⟩ : ∃ z2, (if z < 0 then -1 else szL ys.length z) = z2 := ⟨_, rfl⟩
  have HZ := Lib.hid hz
  have HZ2 := Lib.hid hz2
  by_cases hc : z2 < 0
  · clear hz hz2
    go_enter Try.func4, Try.ntmps4
    go_wp2_with ((go_at_call 12; (first | (with_reducible refine (calls_ov2 (szLaw_eq HZ HZ2 hl hl2)).mono ?_) | refine (calls_ov (szLaw_eq HZ HZ2 hl hl2)).mono ?_); rintro e w' ⟨rfl, x, rfl⟩))
    go_ret
    exact ⟨rfl, (by repeat (first | exact Below.refl _ _ | refine below_ov _ _ ?_ (by first | omega | (simp [ov_size] <;> omega)) | refine Below.alloc ?_ (by first | omega | (simp [ov_size] <;> omega)) _ | refine Below.setCell ?_ (by first | omega | (simp [ov_size] <;> omega)) _ | refine Below.drew ?_ | refine below_drewN ?_ _))⟩
  have b1 := szL_bd hz ⟨by omega, by omega⟩
  have hz0 : ¬ z < 0 := by intro h; rw [if_pos h] at hz2; omega
  rw [if_neg hz0] at hz2
  have b2 := szL_bd hz2 ⟨by omega, by omega⟩
  have m1 : xs.length ≤ 1048576 := by omega
  have m2 : ys.length ≤ 1048576 := by omega
  obtain ⟨v, hv⟩ : ∃ v, (okQs xs && okQs ys) = v := ⟨_, rfl⟩
  have HV := Lib.hid hv
  clear hz hz2 hv
  go_enter Try.func4, Try.ntmps4
  go_wp2_with ((go_at_call 12; (first | (with_reducible refine (calls_ov2 (szLaw_eq HZ HZ2 hl hl2)).mono ?_) | refine (calls_ov (szLaw_eq HZ HZ2 hl hl2)).mono ?_); rintro e w' ⟨rfl, x, rfl⟩))
  refine (toLaw_any (by exact R.below (by repeat (first | exact Below.refl _ _ | refine below_ov _ _ ?_ (by first | omega | (simp [ov_size] <;> omega)) | refine Below.alloc ?_ (by first | omega | (simp [ov_size] <;> omega)) _ | refine Below.setCell ?_ (by first | omega | (simp [ov_size] <;> omega)) _ | refine Below.drew ?_ | refine below_drewN ?_ _))) (by exact R2.below (by repeat (first | exact Below.refl _ _ | refine below_ov _ _ ?_ (by first | omega | (simp [ov_size] <;> omega)) | refine Below.alloc ?_ (by first | omega | (simp [ov_size] <;> omega)) _ | refine Below.setCell ?_ (by first | omega | (simp [ov_size] <;> omega)) _ | refine Below.drew ?_ | refine below_drewN ?_ _))) m1 m2).mono ?_
  rintro e W1 ⟨A1, k1, A3, k3, rfl, P1, P2, hb1⟩
  have T1 : Below w.heap.size w W1 := Below.trans (by repeat (first | exact Below.refl _ _ | refine below_ov _ _ ?_ (by first | omega | (simp [ov_size] <;> omega)) | refine Below.alloc ?_ (by first | omega | (simp [ov_size] <;> omega)) _ | refine Below.setCell ?_ (by first | omega | (simp [ov_size] <;> omega)) _ | refine Below.drew ?_ | refine below_drewN ?_ _)) (hb1.mono (by simp [ov_size]; omega))
  have HX := Lib.hid ((hb1.block w.heap.size (by simp [ov_size]; omega)).trans (ov_blk (heap_alloc_new _ _)))
  have q0 := cell_blk (j := 0) (v := .slice A xs.length c) HX.out rfl
  have q1 := cell_blk (j := 1) (v := .slice A2 ys.length c2) HX.out rfl
  have ql := (Array.getElem?_eq_some_iff.1 HX.out).1
  have S1 := R.below T1
  have S2 := R2.below T1
  clear hb1
  go_wp2_with ((go_at_call 13; (first | (with_reducible refine (calls_ov2 (spec_LawOk_eq (by exact P1) (by exact P2) B B2 (by omega) (by omega) HV)).mono ?_) | refine (calls_ov (spec_LawOk_eq (by exact P1) (by exact P2) B B2 (by omega) (by omega) HV)).mono ?_); rintro e w' ⟨rfl, x, rfl⟩))
  refine (toLaw_any (by exact S1.below (by repeat (first | exact Below.refl _ _ | refine below_ov _ _ ?_ (by first | omega | (simp [ov_size] <;> omega)) | refine Below.alloc ?_ (by first | omega | (simp [ov_size] <;> omega)) _ | refine Below.setCell ?_ (by first | omega | (simp [ov_size] <;> omega)) _ | refine Below.drew ?_ | refine below_drewN ?_ _))) (by exact S2.below (by repeat (first | exact Below.refl _ _ | refine below_ov _ _ ?_ (by first | omega | (simp [ov_size] <;> omega)) | refine Below.alloc ?_ (by first | omega | (simp [ov_size] <;> omega)) _ | refine Below.setCell ?_ (by first | omega | (simp [ov_size] <;> omega)) _ | refine Below.drew ?_ | refine below_drewN ?_ _))) m1 m2).mono ?_
  rintro e W2 ⟨A5, k5, A6, k6, rfl, P3, P4, hb2⟩
  have K2 : Below W1.heap.size W1 W2 := Below.trans (by repeat (first | exact Below.refl _ _ | refine below_ov _ _ ?_ (by first | omega | (simp [ov_size] <;> omega)) | refine Below.alloc ?_ (by first | omega | (simp [ov_size] <;> omega)) _ | refine Below.setCell ?_ (by first | omega | (simp [ov_size] <;> omega)) _ | refine Below.drew ?_ | refine below_drewN ?_ _)) (hb2.mono (by simp [ov_size]))
  have HX2 := Lib.hid ((K2.block w.heap.size ql).trans HX.out)
  have T2 := T1.trans (K2.mono T1.size)
  have U1 := R.below T2
  have U2 := R2.below T2
  clear q0 q1 ql HX hb2 S1 S2 P1 P2 K2
  have q0 := cell_blk (j := 0) (v := .slice A xs.length c) HX2.out rfl
  have q1 := cell_blk (j := 1) (v := .slice A2 ys.length c2) HX2.out rfl
  have ql := (Array.getElem?_eq_some_iff.1 HX2.out).1
  go_wp2_with ((go_at_call 15; (first | (with_reducible refine (calls_ov2 (impl_LawOk_eq (by exact P3.below (by repeat (first | exact Below.refl _ _ | refine below_ov _ _ ?_ (by first | omega | (simp [ov_size] <;> omega)) | refine Below.alloc ?_ (by first | omega | (simp [ov_size] <;> omega)) _ | refine Below.setCell ?_ (by first | omega | (simp [ov_size] <;> omega)) _ | refine Below.drew ?_ | refine below_drewN ?_ _))) (by exact P4.below (by repeat (first | exact Below.refl _ _ | refine below_ov _ _ ?_ (by first | omega | (simp [ov_size] <;> omega)) | refine Below.alloc ?_ (by first | omega | (simp [ov_size] <;> omega)) _ | refine Below.setCell ?_ (by first | omega | (simp [ov_size] <;> omega)) _ | refine Below.drew ?_ | refine below_drewN ?_ _))) B B2 (by omega) (by omega) HV)).mono ?_) | refine (calls_ov (impl_LawOk_eq (by exact P3.below (by repeat (first | exact Below.refl _ _ | refine below_ov _ _ ?_ (by first | omega | (simp [ov_size] <;> omega)) | refine Below.alloc ?_ (by first | omega | (simp [ov_size] <;> omega)) _ | refine Below.setCell ?_ (by first | omega | (simp [ov_size] <;> omega)) _ | refine Below.drew ?_ | refine below_drewN ?_ _))) (by exact P4.below (by repeat (first | exact Below.refl _ _ | refine below_ov _ _ ?_ (by first | omega | (simp [ov_size] <;> omega)) | refine Below.alloc ?_ (by first | omega | (simp [ov_size] <;> omega)) _ | refine Below.setCell ?_ (by first | omega | (simp [ov_size] <;> omega)) _ | refine Below.drew ?_ | refine below_drewN ?_ _))) B B2 (by omega) (by omega) HV)).mono ?_); rintro e w' ⟨rfl, x, rfl⟩))
  obtain ⟨W3, hW⟩ : ∃ W3, W3 = ov (W2.alloc (.cells #[.slice A5 xs.length k5, .slice A6 ys.length k6] 35)) x := ⟨_, rfl⟩
  rw [← hW]
  have K3 : Below W2.heap.size W2 W3 := by rw [hW]; exact (by repeat (first | exact Below.refl _ _ | refine below_ov _ _ ?_ (by first | omega | (simp [ov_size] <;> omega)) | refine Below.alloc ?_ (by first | omega | (simp [ov_size] <;> omega)) _ | refine Below.setCell ?_ (by first | omega | (simp [ov_size] <;> omega)) _ | refine Below.drew ?_ | refine below_drewN ?_ _))
  have HY := Lib.hid (show W3.heap[W2.heap.size]? = some (.cells #[.slice A5 xs.length k5, .slice A6 ys.length k6] 35 (0, 0)) by rw [hW]; exact ov_blk (heap_alloc_new _ _))
  have HX3 := Lib.hid ((K3.block w.heap.size ql).trans HX2.out)
  have T3 := T2.trans (K3.mono T2.size)
  have V1 := R.below T3
  have V2 := R2.below T3
  have P5 := P3.below K3
  have P6 := P4.below K3
  clear hW q0 q1 ql HX2 U1 U2 P3 P4 K3 T1 T2
  generalize W2.heap.size = bx at HY ⊢
  have q0 := cell_blk (j := 0) (v := .slice A xs.length c) HX3.out rfl
  have q1 := cell_blk (j := 1) (v := .slice A2 ys.length c2) HX3.out rfl
  have ql := (Array.getElem?_eq_some_iff.1 HX3.out).1
  have y0 := cell_blk (j := 0) (v := .slice A5 xs.length k5) HY.out rfl
  have y1 := cell_blk (j := 1) (v := .slice A6 ys.length k6) HY.out rfl
  have yl := (Array.getElem?_eq_some_iff.1 HY.out).1
  refine wp_region_relE (fun _ => True) ([], []) (w := W3) [.pur [] ?e0, .pur [] ?e1, .rel [] [2] false (IsOw (GLaw xs ys)), .pur [2] ?e3, .pur [] ?e4] _ rfl rfl (by kernel_rfl) (by kernel_rfl) (by kernel_rfl) (by kernel_rfl) ?hst (fun _ _ _ => trivial) (ov_of_below (Below.refl _ _)) trivial (fun vs => ?walk)
  case' walk =>
    (refine wpRelE_pur rfl rfl (fun x hh => by ((skip); (go_wp2); refine relEndE_pur rfl ?_ (by repeat (first | exact Below.refl _ _ | refine below_ov _ _ ?_ (by first | omega | (simp [ov_size] <;> omega)) | refine Below.alloc ?_ (by first | omega | (simp [ov_size] <;> omega)) _ | refine Below.setCell ?_ (by first | omega | (simp [ov_size] <;> omega)) _ | refine Below.drew ?_ | refine below_drewN ?_ _)); simp only [Act.put, List.setIfInBounds_toArray, List.set_cons_succ, List.set_cons_zero]; rfl)) ?_; simp only [Act.put, List.setIfInBounds_toArray, List.set_cons_succ, List.set_cons_zero])
    (refine wpRelE_pur rfl rfl (fun x hh => by ((skip); (go_wp2); refine relEndE_pur rfl ?_ (by repeat (first | exact Below.refl _ _ | refine below_ov _ _ ?_ (by first | omega | (simp [ov_size] <;> omega)) | refine Below.alloc ?_ (by first | omega | (simp [ov_size] <;> omega)) _ | refine Below.setCell ?_ (by first | omega | (simp [ov_size] <;> omega)) _ | refine Below.drew ?_ | refine below_drewN ?_ _)); simp only [Act.put, List.setIfInBounds_toArray, List.set_cons_succ, List.set_cons_zero]; rfl)) ?_; simp only [Act.put, List.setIfInBounds_toArray, List.set_cons_succ, List.set_cons_zero])
    refine wpRelE_own rfl rfl rfl (fun x hh => ?_) ?_
    · go_wp2_with fail
      refine (toLaw_any (by exact V1.below (by repeat (first | exact Below.refl _ _ | refine below_ov _ _ ?_ (by first | omega | (simp [ov_size] <;> omega)) | refine Below.alloc ?_ (by first | omega | (simp [ov_size] <;> omega)) _ | refine Below.setCell ?_ (by first | omega | (simp [ov_size] <;> omega)) _ | refine Below.drew ?_ | refine below_drewN ?_ _))) (by exact V2.below (by repeat (first | exact Below.refl _ _ | refine below_ov _ _ ?_ (by first | omega | (simp [ov_size] <;> omega)) | refine Below.alloc ?_ (by first | omega | (simp [ov_size] <;> omega)) _ | refine Below.setCell ?_ (by first | omega | (simp [ov_size] <;> omega)) _ | refine Below.drew ?_ | refine below_drewN ?_ _))) m1 m2).mono ?_
      rintro e w7 ⟨A7, k7, A8, k8, rfl, Q7, Q8, hb7⟩
      go_wp2
      refine relEndE_own rfl rfl ?_ hb7 ⟨A7, k7, A8, k8, rfl, Q7, Q8⟩
      (simp only [Act.put, List.setIfInBounds_toArray, List.set_cons_succ, List.set_cons_zero] <;> rfl)
    simp only [Act.put, List.setIfInBounds_toArray, List.set_cons_succ, List.set_cons_zero]
    (refine wpRelE_pur rfl rfl (fun x hh => by ((obtain ⟨a, k7, a', k8, f, Q, Q'⟩ := isOw_at (hh 2 (by simp)) rfl; simp only [f]); (go_wp2_with (first | (go_at_call 16; refine (calls_ov (eqLaw_same (by exact P5.below (by repeat (first | exact Below.refl _ _ | refine below_ov _ _ ?_ (by first | omega | (simp [ov_size] <;> omega)) | refine Below.alloc ?_ (by first | omega | (simp [ov_size] <;> omega)) _ | refine Below.setCell ?_ (by first | omega | (simp [ov_size] <;> omega)) _ | refine Below.drew ?_ | refine below_drewN ?_ _))) (by exact P6.below (by repeat (first | exact Below.refl _ _ | refine below_ov _ _ ?_ (by first | omega | (simp [ov_size] <;> omega)) | refine Below.alloc ?_ (by first | omega | (simp [ov_size] <;> omega)) _ | refine Below.setCell ?_ (by first | omega | (simp [ov_size] <;> omega)) _ | refine Below.drew ?_ | refine below_drewN ?_ _))) (by exact Q) (by exact Q') (by omega) (by omega))).mono ?_; rintro e w' ⟨rfl, x, rfl⟩))); refine relEndE_pur rfl ?_ (by repeat (first | exact Below.refl _ _ | refine below_ov _ _ ?_ (by first | omega | (simp [ov_size] <;> omega)) | refine Below.alloc ?_ (by first | omega | (simp [ov_size] <;> omega)) _ | refine Below.setCell ?_ (by first | omega | (simp [ov_size] <;> omega)) _ | refine Below.drew ?_ | refine below_drewN ?_ _)); simp only [Act.put, List.setIfInBounds_toArray, List.set_cons_succ, List.set_cons_zero]; rfl)) ?_; simp only [Act.put, List.setIfInBounds_toArray, List.set_cons_succ, List.set_cons_zero])
    (refine wpRelE_pur rfl rfl (fun x hh => by ((skip); (go_wp2); refine relEndE_pur rfl ?_ (by repeat (first | exact Below.refl _ _ | refine below_ov _ _ ?_ (by first | omega | (simp [ov_size] <;> omega)) | refine Below.alloc ?_ (by first | omega | (simp [ov_size] <;> omega)) _ | refine Below.setCell ?_ (by first | omega | (simp [ov_size] <;> omega)) _ | refine Below.drew ?_ | refine below_drewN ?_ _)); simp only [Act.put, List.setIfInBounds_toArray, List.set_cons_succ, List.set_cons_zero]; rfl)) ?_; simp only [Act.put, List.setIfInBounds_toArray, List.set_cons_succ, List.set_cons_zero])
    refine wpRelE_nil (fun W4 K _ hh => ?_)
    clear hh
    have T4 := T3.trans (K.mono T3.size)
    go_wp2
    go_ret
    exact ⟨rfl, T4⟩
  case' hst => exact all_cons trivial (all_cons trivial (all_cons glaw_stable (all_cons trivial (all_cons trivial all_nil))))

set_option maxRecDepth 100000 in
theorem FnExactLawOk_lifted (os : Os) (started : os.Started) (H : Type) (enc : TypeId × Value → H) :
    ReturnsInHanded {} Try.checked os 4 .any (Rows.fnExactLawOkSpec.pre6 enc Try.prog Try.f4 Rows.fnExactLawOkRow.domain false) (Rows.fnExactLawOkSpec.post enc Try.prog Try.f4 false true false false) := by
  refine returnsInHanded_of_change (C := Try.checked) own started (by kernel_rfl) Try.func4
    (ChangeSpec.witness6 (enc := enc) (C := Try.checked) false ⟨#[], #[.agg #[.slice none 0 0, .slice none 0 0]], []⟩ 8 (by kernel_rfl) (by kernel_rfl) (by kernel_rfl) (by kernel_rfl)) ?_
  intro W base args ds gs before hval0 hW hcnd _
  have hval : ∀ (j : Nat) t v, Try.f4.params[j]? = some t → args[j]? = some v → Value.okWide Try.prog W .any base t v := hval0
  have hW' := hW
  obtain ⟨p, q, hA0, hV, rfl, hfz, hnd⟩ := hW
  have hA : DataW.TrodAll enc Try.prog W 0 (fun _ => true) true Try.f4.params.toList args.toList ds p := hA0
  rw [Try.params4] at hA hval
  obtain ⟨v0, vs0, d0, ds0, p0, q0, hargs0, rfl, rfl, h0, r0⟩ := trodAll_cons hA
  obtain ⟨rfl, rfl, rfl⟩ := trodAll_nil r0
  obtain rfl : args = #[v0] := by cases args; simp_all
  obtain ⟨rfl, rfl⟩ := trodVars_none hV
  have k0 := h0
  have lt0 : ∀ x ∈ p0, x.block < W.heap.size := by obtain ⟨m, hm⟩ := k0; exact DataW.trod_lt m _ _ _ hm
  have hv0 := hval 0 30 v0 rfl rfl
  obtain ⟨A, A2, c, c2, xs, ys, rfl, RR, RR2, hlen, hlen2, BB, BB2⟩ := open_law hv0 h0
  clear hA0 hval0
  refine (law2_any W RR RR2 hlen hlen2 BB BB2).mono fun e W' ⟨he, bel⟩ => ?_
  subst he
  exact ⟨_, rfl, _, _, _, [], _, [], hW', trodAll_mk1 (shut_bool Try.underlying4 _), (trodAll_cons_mk (Below.trod laidOut (by kernel_rfl) (of_decide_eq_true (by kernel_rfl)) k0 bel lt0) trodAll_mk0), rfl, bel.frame _, fun h => by cases h⟩

theorem FnExactLawOk_holds : Rows.FnExactLawOkSaid :=
  OpenClaim.holds_of_wide 4 Try.f4 rfl rfl rfl rfl rfl rfl rfl ⟨rfl, rfl, rfl, rfl, rfl⟩ rfl rfl rfl rfl rfl (by kernel_rfl) Try.func4 (by kernel_rfl)
    (of_decide_eq_true (by kernel_rfl)) (by unfold Func.isWrapper; first | (rw [if_pos (by decide +kernel)]; kernel_rfl) | (rw [if_neg (by decide +kernel)]; exact ⟨rfl, rfl⟩))
    (fun os started H enc _ => FnExactLawOk_lifted os started H enc)
#print axioms FnExactLawOk_holds
end Go.Proofs.Ytncolpeeilgndaa
