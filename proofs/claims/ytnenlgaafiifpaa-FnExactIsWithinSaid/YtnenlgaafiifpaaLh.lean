/- Contracts of the laws' helpers on regions: szRegion, toRegion, eqRegion, markRegion, heldRegion. Condition: rows of at most 2^20 half planes where said. -/
import Derived.Test.YtnenlgaafiifpaaLr
set_option linter.unusedSimpArgs false
set_option linter.unusedVariables false
set_option linter.unusedSectionVars false
namespace Go.Proofs.Ytnenlgaafiifpaa
open Go.ChangeShapes Go.WideShapes Go.ChangeAt Go.RowKit Go.Joins

def szL (n : Nat) (left : Int) : Int := if left - n < 0 then -1 else left - n
theorem szHalfS_eq {n c : Nat} {A : Option Addr} {left v : Int} {w : World} (h : Hid (szL n left = v)) (hn : n ≤ 9223372036854775807) (hl : 0 ≤ left ∧ left ≤ 1048576) :
    Calls Try.prog 57 #[.slice A n c, .int .i64 left] w fun e w' => e = .returned (.int .i64 v) ∧ Below w.heap.size w w' := by
  have h' := h.out
  unfold szL at h'
  by_cases hc : left - n < 0
  · rw [if_pos hc] at h'
    subst h'
    go_enter Try.func57, Try.ntmps57
    go_wp2
    go_ret
    exact ⟨rfl, (by repeat (first | exact Below.refl _ _ | refine below_ov _ _ ?_ (by first | omega | (simp [ov_size] <;> omega)) | refine Below.alloc ?_ (by first | omega | (simp [ov_size] <;> omega)) _ | refine Below.setCell ?_ (by first | omega | (simp [ov_size] <;> omega)) _ | refine Below.drew ?_ | refine below_drewN ?_ _))⟩
  · rw [if_neg hc] at h'
    subst h'
    go_enter Try.func57, Try.ntmps57
    go_wp2
    go_ret
    exact ⟨rfl, (by repeat (first | exact Below.refl _ _ | refine below_ov _ _ ?_ (by first | omega | (simp [ov_size] <;> omega)) | refine Below.alloc ?_ (by first | omega | (simp [ov_size] <;> omega)) _ | refine Below.setCell ?_ (by first | omega | (simp [ov_size] <;> omega)) _ | refine Below.drew ?_ | refine below_drewN ?_ _))⟩
theorem szRegion_eq {n c : Nat} {A : Option Addr} {left v : Int} {w : World} (h : Hid (szL n left = v)) (hn : n ≤ 9223372036854775807) (hl : 0 ≤ left ∧ left ≤ 1048576) :
    Calls Try.prog 15 #[.agg #[.slice A n c], .int .i64 left] w fun e w' => e = .returned (.int .i64 v) ∧ Below w.heap.size w w' := by
  have h' := h.out
  unfold szL at h'
  by_cases hc : v < 0
  · have : v = -1 := by split at h' <;> omega
    subst this
    go_enter Try.func15, Try.ntmps15
    go_wp2_with ((go_at_call 57; (first | (with_reducible refine (calls_ov2 (szHalfS_eq h hn hl)).mono ?_) | refine (calls_ov (szHalfS_eq h hn hl)).mono ?_); rintro e w' ⟨rfl, x, rfl⟩))
    go_ret
    exact ⟨rfl, (by repeat (first | exact Below.refl _ _ | refine below_ov _ _ ?_ (by first | omega | (simp [ov_size] <;> omega)) | refine Below.alloc ?_ (by first | omega | (simp [ov_size] <;> omega)) _ | refine Below.setCell ?_ (by first | omega | (simp [ov_size] <;> omega)) _ | refine Below.drew ?_ | refine below_drewN ?_ _))⟩
  · go_enter Try.func15, Try.ntmps15
    go_wp2_with ((go_at_call 57; (first | (with_reducible refine (calls_ov2 (szHalfS_eq h hn hl)).mono ?_) | refine (calls_ov (szHalfS_eq h hn hl)).mono ?_); rintro e w' ⟨rfl, x, rfl⟩))
    go_ret
    exact ⟨rfl, (by repeat (first | exact Below.refl _ _ | refine below_ov _ _ ?_ (by first | omega | (simp [ov_size] <;> omega)) | refine Below.alloc ?_ (by first | omega | (simp [ov_size] <;> omega)) _ | refine Below.setCell ?_ (by first | omega | (simp [ov_size] <;> omega)) _ | refine Below.drew ?_ | refine below_drewN ?_ _))⟩

theorem toHalf_any (g : H3) (w : World) :
    Calls Try.prog 23 #[.agg #[.int .i64 g.a, .int .i64 g.b, .int .i64 g.c]] w fun e w' => e = .returned (.agg #[.int .i64 g.a, .int .i64 g.b, .int .i64 g.c]) ∧ Below w.heap.size w w' := by
  go_enter Try.func23, Try.ntmps23
  go_wp2
  refine bodyPost_ret (v := .agg #[.int .i64 g.a, .int .i64 g.b, .int .i64 g.c]) (by simp [results, Try.results23, go_sem]) rfl ⟨rfl, ?_⟩
  (repeat (first | exact Below.refl _ _ | refine below_ov _ _ ?_ (by first | omega | (simp [ov_size] <;> omega)) | refine Below.alloc ?_ (by first | omega | (simp [ov_size] <;> omega)) _ | refine Below.setCell ?_ (by first | omega | (simp [ov_size] <;> omega)) _ | refine Below.drew ?_ | refine below_drewN ?_ _))

theorem addr_block {g g' : Nat} (e : some (⟨g, 0, none⟩ : Addr) = some ⟨g', 0, none⟩) : g' = g := by injection e with e; injection e with e; exact e.symm
theorem made3 (n : Nat) : (madeCells (Value.agg #[.int .i64 0, .int .i64 0, .int .i64 0]).cells (n * 3)).toList = cells3 (List.replicate n ⟨0, 0, 0⟩) := by
  apply List.ext_getElem?
  intro j
  by_cases hj : j < n * 3
  · have h1 : (madeCells (Value.agg #[.int .i64 0, .int .i64 0, .int .i64 0]).cells (n * 3)).toList[j]? = some (.int .i64 0) := by
      have h3 : j % 3 < 3 := Nat.mod_lt _ (by decide)
      simp [madeCells, Value.cells, hj]
      match j % 3, h3 with
      | 0, _ => rfl
      | 1, _ => rfl
      | 2, _ => rfl
    rw [h1]
    have hk : j / 3 < (List.replicate n (⟨0, 0, 0⟩ : H3)).length := by simp; omega
    obtain ⟨c0, c1, c2⟩ := cells3_get (List.replicate n ⟨0, 0, 0⟩) (j / 3) hk
    simp only [List.getElem_replicate] at c0 c1 c2
    have : j = j / 3 * 3 ∨ j = j / 3 * 3 + 1 ∨ j = j / 3 * 3 + 2 := by omega
    rcases this with e | e | e
    · rw [e, c0]
    · rw [e, c1]
    · rw [e, c2]
  · rw [List.getElem?_eq_none (by simp [size_madeCells]; omega), List.getElem?_eq_none (by rw [cells3_length]; simp; omega)]

theorem fill_set {hs : List H3} {k : Nat} (hk : k < hs.length) : (hs.take k ++ List.replicate (hs.length - k) (⟨0, 0, 0⟩ : H3)).set k hs[k] = hs.take (k + 1) ++ List.replicate (hs.length - (k + 1)) (⟨0, 0, 0⟩ : H3) := by
  have hl : (hs.take k).length = k := by simp; omega
  rw [List.set_append_right (h := by omega), hl, Nat.sub_self, List.take_succ_eq_append_getElem hk, List.append_assoc]
  obtain ⟨m, hm⟩ : ∃ m, hs.length - k = m + 1 := ⟨hs.length - k - 1, by omega⟩
  rw [hm, List.replicate_succ, List.set_cons_zero, show hs.length - (k + 1) = m by omega]
  rfl

set_option maxHeartbeats 2000000 in
theorem toHalfS_any {hs : List H3} {A : Option Addr} {c : Nat} {w : World} (R : RL w A hs) (hl : hs.length ≤ 1048576) :
    Calls Try.prog 60 #[.slice A hs.length c] w (InsPost w.heap.size w hs) := by
  obtain ⟨i0, hi, hz0, hz1, hz2⟩ := info_parts info_half
  go_enter Try.func60, Try.ntmps60
  go_wp2_with (at_make; refine wpList_make_full _ rfl _ _ 26 rfl w.heap.size 38 i0 (.agg #[.int .i64 0, .int .i64 0, .int .i64 0]) 3 Try.underlying26 hi hz0 hz1 _ _ _ _ hs.length rfl rfl rfl rfl (by rw [hz2]; omega) (by unfold maxLen; omega) (Nat.le_refl _) ?_; intro w1 O1 hg1; rw [made3] at O1)
  have hb1 : Below w.heap.size w w1 := ⟨hg1.os, hg1.tape, hg1.output, hg1.size, fun k hk => hg1.block k hk (by simp)⟩
  have RO1 : RB w.heap.size 38 w1 (some ⟨w.heap.size, 0, none⟩) hs.length (List.replicate hs.length ⟨0, 0, 0⟩) := by
    unfold RB; rw [List.length_replicate]; exact O1
  clear O1 hg1
  go_wp2
  generalize hB : w.heap.size = B at RO1 hb1 ⊢
  go_loopw [4] (fun i wr => ∃ k : Nat, k ≤ hs.length ∧ i = .int .i64 k ∧ RB B 38 wr (some ⟨B, 0, none⟩) hs.length (hs.take k ++ List.replicate (hs.length - k) ⟨0, 0, 0⟩) ∧ Below B w wr) (fun i _ => hs.length - (intOf i).toNat)
  case atStart => exact ⟨0, Nat.zero_le _, rfl, by simpa using RO1, hb1⟩
  case round =>
    obtain ⟨k, hk, rfl, RO, hb⟩ := hrel
    have hbs := hb.size
    have hbw : Below w.heap.size w wr := by rw [hB]; exact hb
    have hBs : B ≤ wr.heap.size := by omega
    have hfl : (hs.take k ++ List.replicate (hs.length - k) (⟨0, 0, 0⟩ : H3)).length = hs.length := by simp; omega
    by_cases hlt : k < hs.length
    · obtain ⟨g, o, rfl, hg, z0, z1, z2⟩ := (R.below hbw) k hlt
      obtain ⟨g6, cur6, e6, _, hgl6, hgh6, _⟩ := RO.row (by omega)
      have q6 := addr_block e6
      rw [q6] at hgh6 hgl6
      have f0 := frozen_blk (j := k * 3) hgh6
      have f1 := frozen_blk (j := k * 3 + 1) hgh6
      have f2 := frozen_blk (j := k * 3 + 2) hgh6
      obtain ⟨g7, e7, _, c0, c1, c2⟩ := RO.r3.at_ (k := k) (by omega)
      have q7 := addr_block e7
      rw [q7] at c0 c1 c2
      obtain ⟨v0, c0⟩ : ∃ v, wr.cell? ⟨B, k * 3, none⟩ = some v := ⟨_, c0⟩
      obtain ⟨v1, c1⟩ : ∃ v, wr.cell? ⟨B, k * 3 + 1, none⟩ = some v := ⟨_, c1⟩
      obtain ⟨v2, c2⟩ : ∃ v, wr.cell? ⟨B, k * 3 + 2, none⟩ = some v := ⟨_, c2⟩
      clear e7 e6 q6 q7 hgh6 hbw
      have S1 := RO.set_ rfl (j := k) (by omega) hs[k]
      rw [fill_set hlt] at S1
      have HS1 := Lib.hid S1
      clear S1
      clear R hB
      go_wp2_with ((go_at_call 23; (first | (with_reducible refine (calls_ov2 (toHalf_any hs[k] _)).mono ?_) | refine (calls_ov (toHalf_any hs[k] _)).mono ?_); rintro e w' ⟨rfl, x, rfl⟩))
      go_roundw
      case rel => exact ⟨k + 1, by omega, by go_num, HS1.out.1.below (by repeat (first | exact Below.refl _ _ | refine below_ov _ _ ?_ (by first | omega | (simp [ov_size] <;> omega)) | refine Below.alloc ?_ (by first | omega | (simp [ov_size] <;> omega)) _ | refine Below.setCell ?_ (by first | omega | (simp [ov_size] <;> omega)) _ | refine Below.drew ?_ | refine below_drewN ?_ _)), (by repeat (first | exact HS1.out.2 hb | refine below_ov _ _ ?_ (by first | omega | (simp [ov_size] <;> omega)) | refine Below.alloc ?_ (by first | omega | (simp [ov_size] <;> omega)) _ | refine Below.setCell ?_ (by first | omega | (simp [ov_size] <;> omega)) _ | refine Below.drew ?_ | refine below_drewN ?_ _))⟩
      case measure => simp [intOf] <;> omega
    · obtain rfl : k = hs.length := by omega
      rw [List.take_length, Nat.sub_self, List.replicate_zero, List.append_nil] at RO
      go_wp2
      go_ret
      exact ⟨some ⟨B, 0, none⟩, hs.length, rfl, by rw [hB]; exact RO, by rw [hB]; exact hb⟩
theorem toRegion_any {hs : List H3} {A : Option Addr} {c : Nat} {w : World} (R : RL w A hs) (hl : hs.length ≤ 1048576) :
    Calls Try.prog 17 #[.agg #[.slice A hs.length c]] w (RegOut w hs) := by
  have hb0 : Below w.heap.size w (((w.alloc (.cells #[.slice A hs.length c] 24)).alloc (.cells #[.slice none 0 0] 28)).alloc (.cells #[.slice none 0 0] 28)) := (by repeat (first | exact Below.refl _ _ | refine below_ov _ _ ?_ (by first | omega | (simp [ov_size] <;> omega)) | refine Below.alloc ?_ (by first | omega | (simp [ov_size] <;> omega)) _ | refine Below.setCell ?_ (by first | omega | (simp [ov_size] <;> omega)) _ | refine Below.drew ?_ | refine below_drewN ?_ _))
  go_enter Try.func17, Try.ntmps17
  go_wp2_with fail
  refine (toHalfS_any (R.below hb0) hl).mono ?_
  rintro e w1 ⟨A1, c1, rfl, R1, hb1⟩
  have hbw : Below w.heap.size w w1 := hb0.trans (hb1.mono (by simp; omega))
  have HX := Lib.hid ((hb1.block (w.heap.size + 1) (by simp)).trans ((heap_old_at (by simp)).trans (heap_new_at (r := some (.cells #[.slice none 0 0] 28 (0, 0))) (by simp) rfl)))
  have HY := Lib.hid ((hb1.block (w.heap.size + 1 + 1) (by simp)).trans (heap_new_at (r := some (.cells #[.slice none 0 0] 28 (0, 0))) (by simp) rfl))
  have x2 := cell_blk (j := 0) (v := .slice none 0 0) HX.out rfl
  have f2 := frozen_blk (j := 0) HX.out
  have l2 := (Array.getElem?_eq_some_iff.1 HX.out).1
  have y2 := cell_blk (j := 0) (v := .slice none 0 0) HY.out rfl
  have g2 := frozen_blk (j := 0) HY.out
  have m2 := (Array.getElem?_eq_some_iff.1 HY.out).1
  have R1' := R1.weak (B' := w.heap.size) (by simp; omega)
  clear R1 hb1
  go_wp2
  have O1 : RB w.heap.size 38 ((w1.setCell ⟨w.heap.size + 1 + 1, 0, none⟩ (.slice A1 hs.length c1)).setCell ⟨w.heap.size + 1, 0, none⟩ (.slice A1 hs.length c1)) A1 c1 hs := (R1'.set_box HY.out (by decide)).set_box ((heap_setCell_other _ _ _ _ (by simp)).trans HX.out) (by decide)
  refine bodyPost_ret (v := .agg #[.slice A1 hs.length c1]) (by simp [results, Try.results17, go_sem, x2, l2, y2, m2, f2, g2]) rfl ⟨A1, c1, rfl, O1, ?_⟩
  exact (hbw.setCell (by simp; omega) _).setCell (by simp) _

theorem eqHalf_same (g : H3) (w : World) :
    Calls Try.prog 110 #[.agg #[.int .i64 g.a, .int .i64 g.b, .int .i64 g.c], .agg #[.int .i64 g.a, .int .i64 g.b, .int .i64 g.c]] w fun e w' => e = .returned (.bool true) ∧ Below w.heap.size w w' := by
  go_enter Try.func110, Try.ntmps110
  go_wp2
  go_ret
  exact ⟨rfl, (by repeat (first | exact Below.refl _ _ | refine below_ov _ _ ?_ (by first | omega | (simp [ov_size] <;> omega)) | refine Below.alloc ?_ (by first | omega | (simp [ov_size] <;> omega)) _ | refine Below.setCell ?_ (by first | omega | (simp [ov_size] <;> omega)) _ | refine Below.drew ?_ | refine below_drewN ?_ _))⟩
set_option maxHeartbeats 1000000 in
theorem eqHalfS_same {xs : List H3} {A1 A2 : Option Addr} {c1 c2 : Nat} {w : World} (R1 : R3 38 w A1 c1 xs) (R2 : R3 38 w A2 c2 xs) (hx : xs.length ≤ 1000000000) :
    Calls Try.prog 65 #[.slice A1 xs.length c1, .slice A2 xs.length c2] w fun e w' => e = .returned (.bool true) ∧ Below w.heap.size w w' := by
  go_enter Try.func65, Try.ntmps65
  go_wp2
  go_loopw [5] (fun i wr => ∃ k : Nat, k ≤ xs.length ∧ i = .int .i64 k ∧ Below w.heap.size w wr) (fun i _ => xs.length - (intOf i).toNat)
  case atStart => exact ⟨0, Nat.zero_le _, rfl, Below.refl _ _⟩
  case round =>
    obtain ⟨k, hk, rfl, hb⟩ := hrel
    have hbs := hb.size
    by_cases hlt : k < xs.length
    · obtain ⟨g1, rfl, hg1, z0, z1, z2⟩ := (R1.below hb).at_ hlt
      obtain ⟨g2, rfl, hg2, y0, y1, y2⟩ := (R2.below hb).at_ hlt
      go_wp2
      ((first | (with_reducible refine wp_region_calm2 (by kernel_rfl) (by kernel_rfl) ?_) | refine wp_region_calm (by kernel_rfl) (by kernel_rfl) ?_); (repeat (go_big_quiet_step (first | (go_at_call 110; exact calm_below (eqHalf_same xs[k] _))))); refine wpQuiet_nil ?_; rintro _ ⟨y, rfl⟩)
      go_wp2
      go_roundw
      case rel => exact ⟨k + 1, by omega, by go_num, (by repeat (first | exact hb | refine below_ov _ _ ?_ (by first | omega | (simp [ov_size] <;> omega)) | refine Below.alloc ?_ (by first | omega | (simp [ov_size] <;> omega)) _ | refine Below.setCell ?_ (by first | omega | (simp [ov_size] <;> omega)) _ | refine Below.drew ?_ | refine below_drewN ?_ _))⟩
      case measure => simp [intOf] <;> omega
    · obtain rfl : k = xs.length := by omega
      go_wp2
      go_ret
      exact ⟨rfl, hb⟩
theorem eqRegion_same {xs : List H3} {A1 A2 : Option Addr} {c1 c2 : Nat} {w : World} (R1 : R3 38 w A1 c1 xs) (R2 : R3 38 w A2 c2 xs) (hx : xs.length ≤ 1000000000) :
    Calls Try.prog 19 #[.agg #[.slice A1 xs.length c1], .agg #[.slice A2 xs.length c2]] w fun e w' => e = .returned (.bool true) ∧ Below w.heap.size w w' := by
  go_enter Try.func19, Try.ntmps19
  go_wp2_with ((go_at_call 65; (first | (with_reducible refine (calls_ov2 (eqHalfS_same (R3.alloc (R3.alloc R1 _) _) (R3.alloc (R3.alloc R2 _) _) hx)).mono ?_) | refine (calls_ov (eqHalfS_same (R3.alloc (R3.alloc R1 _) _) (R3.alloc (R3.alloc R2 _) _) hx)).mono ?_); rintro e w' ⟨rfl, x, rfl⟩))
  go_ret
  exact ⟨rfl, (by repeat (first | exact Below.refl _ _ | refine below_ov _ _ ?_ (by first | omega | (simp [ov_size] <;> omega)) | refine Below.alloc ?_ (by first | omega | (simp [ov_size] <;> omega)) _ | refine Below.setCell ?_ (by first | omega | (simp [ov_size] <;> omega)) _ | refine Below.drew ?_ | refine below_drewN ?_ _))⟩

/-- The marks: numbers from k on. -/
def marks (k : Int) : Nat → List H3
  | 0 => []
  | n + 1 => marks k n ++ [⟨k + n * 3, k + n * 3 + 1, k + n * 3 + 2⟩]
theorem marks_length (k : Int) : ∀ n, (marks k n).length = n
  | 0 => rfl
  | n + 1 => by simp [marks, marks_length k n]
theorem marks_get (k : Int) : ∀ n i (h : i < (marks k n).length), (marks k n)[i] = ⟨k + i * 3, k + i * 3 + 1, k + i * 3 + 2⟩
  | 0, i, h => by simp [marks] at h
  | n + 1, i, h => by
    by_cases hi : i < (marks k n).length
    · simp only [marks]
      rw [List.getElem_append_left hi]; exact marks_get k n i hi
    · have hl := marks_length k n
      have : i = n := by simp [marks] at h; omega
      subst this
      simp only [marks]
      rw [List.getElem_append_right (by omega)]
      simp [hl]
theorem mark_set {xs : List H3} {k : Nat} {b : Int} (hk : k < xs.length) : (marks b k ++ xs.drop k).set k ⟨b + k * 3, b + k * 3 + 1, b + k * 3 + 2⟩ = marks b (k + 1) ++ xs.drop (k + 1) := by
  have hl := marks_length b k
  rw [List.set_append_right (h := by omega), hl, Nat.sub_self, List.drop_eq_getElem_cons hk, List.set_cons_zero]
  simp [marks]
end Go.Proofs.Ytnenlgaafiifpaa
