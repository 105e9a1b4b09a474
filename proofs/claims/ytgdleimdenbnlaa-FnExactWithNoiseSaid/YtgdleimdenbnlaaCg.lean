/- Contracts of slices.Clone on any row, of copyRegion and of the reference's l08Region. Condition: rows of at most 5000. -/
import Derived.Test.YtgdleimdenbnlaaCu
set_option linter.unusedSimpArgs false
set_option linter.unusedVariables false
set_option linter.unusedSectionVars false
namespace Go.Proofs.Ytgdleimdenbnlaa
open Go.RowKit

set_option maxRecDepth 100000 in
theorem Clone_all {xs : List H3} {A : Option Addr} {c : Nat} {w : World} (R : R3 49 w A c xs) (hl : xs.length ≤ 5000) :
    Calls Try.prog 108 #[.slice A xs.length c] w (InsPost w.heap.size w xs) := by
  by_cases h0 : 0 < xs.length
  · exact Clone_any R ⟨h0, hl⟩
  · have hx : xs = [] := List.length_eq_zero_iff.1 (by omega)
    subst hx
    have R' := R
    rcases R'.2 with ⟨e, _⟩ | ⟨g, cap, cur, e, _⟩
    · injection e with e1 e2 e3
      subst e1 e3
      have hn : (binOp .eql 32 (.slice none 0 0) (.slice none 0 0)).run Try.prog w = .ok (.bool (none : Option Addr).isNone) w := Lib.run_eql_slice_nil w _ _ _ _ _ _ _ Try.underlying32
      clear R R'
      go_enter Try.func108, Try.ntmps108
      go_wp2
      go_ret
      exact ⟨none, 0, rfl, RB.nil _ _ _, Below.refl _ _⟩
    · injection e with e1 e2 e3
      subst e1 e3
      have hn : (binOp .eql 32 (.slice (some ⟨g, 0, none⟩) 0 c) (.slice none 0 0)).run Try.prog w = .ok (.bool (some (⟨g, 0, none⟩ : Addr)).isNone) w := Lib.run_eql_slice_nil w _ _ _ _ _ _ _ Try.underlying32
      clear R'
      go_enter Try.func108, Try.ntmps108
      go_wp2_with (at_builtin; refine wpList_append_rows (os := []) (xs := []) rfl _ _ rfl w.heap.size rfl (RB.new0 (by simp) (by simp) rfl) rfl (R3.alloc R _) (by simp) (by simp) ?_; intro A1 c1 w1 R1 B1; rw [List.nil_append] at R1; have hb1 : Below w.heap.size w w1 := B1.out (by repeat (first | exact bR | refine bO ?_ | refine bA ?_ | refine bS ?_ | refine bD ?_ | refine bN ?_)) (by simp))
      go_ret
      exact ⟨A1, c1, rfl, R1, hb1⟩

set_option maxHeartbeats 2000000 in
theorem copyRegion_eq {xs : List H3} {A : Option Addr} {c : Nat} {w : World} (R : R3 49 w A c xs) (hl : xs.length ≤ 5000) :
    Calls Try.prog 70 #[.agg #[.slice A xs.length c]] w (RegOut w xs) := by
  go_enter Try.func70, Try.ntmps70
  go_wp2_with fail
  refine (Clone_all (R.below (by repeat (first | exact bR | refine bO ?_ | refine bA ?_ | refine bS ?_ | refine bD ?_ | refine bN ?_))) hl).mono ?_
  rintro e w1 ⟨A1, c1, rfl, R1, hb1⟩
  have hbw : Below w.heap.size w w1 := Below.trans (by repeat (first | exact bR | refine bO ?_ | refine bA ?_ | refine bS ?_ | refine bD ?_ | refine bN ?_)) (hb1.mono (by simp; omega))
  have HX := Lib.hid ((hb1.block (w.heap.size + 1) (by simp)).trans (heap_new_at (r := some (.cells #[.slice none 0 0] 34 (0, 0))) (by simp) rfl))
  have HR1 := R1.weak (B' := w.heap.size) (by simp; omega)
  clear R1 hb1
  have hb2 : w.heap.size ≤ w.heap.size + 1 := by omega
  generalize w.heap.size + 1 = b4 at HX hb2 ⊢
  have x2 := cell_blk (j := 0) (v := .slice none 0 0) HX.out rfl
  have f2 := frozen_blk (j := 0) HX.out
  have l2 := (Array.getElem?_eq_some_iff.1 HX.out).1
  go_wp2
  refine bodyPost_ret (v := .agg #[.slice A1 xs.length c1]) (by simp [results, Try.results70, go_sem, x2, l2]) rfl ⟨A1, c1, rfl, HR1.set_box HX.out (by decide), hbw.setCell (show w.heap.size ≤ b4 from hb2) _⟩

set_option maxHeartbeats 2000000 in
theorem l08Region_eq {xs : List H3} {A : Option Addr} {c : Nat} {w : World} (R : R3 49 w A c xs) (hl : xs.length ≤ 5000) :
    Calls Try.prog 67 #[.agg #[.slice A xs.length c]] w (RegOut w xs) := by
  go_enter Try.func67, Try.ntmps67
  go_wp2_with (at_builtin; refine wpList_append_rows (os := []) (xs := xs) rfl _ _ rfl (w.heap.size + 1 + 1) rfl (RB.new0 (by simp) (by simp) rfl) rfl (((R3.alloc R _).alloc _).alloc _) (by simp; omega) (by simp) ?_; intro A1 c1 w1 R1 B1; rw [List.nil_append] at R1; have hb1 : Below (w.heap.size + 1 + 1) ((w.alloc (.cells #[.slice A xs.length c] 34)).alloc (.cells #[.slice none 0 0] 34)) w1 := B1.out (by repeat (first | exact bR | refine bO ?_ | refine bA ?_ | refine bS ?_ | refine bD ?_ | refine bN ?_)) (by simp); have HX := Lib.hid ((hb1.block (w.heap.size + 1) (by simp)).trans (heap_new_at (r := some (.cells #[.slice none 0 0] 34 (0, 0))) (by simp) rfl)); have hbw : Below w.heap.size w w1 := Below.trans (by repeat (first | exact bR | refine bO ?_ | refine bA ?_ | refine bS ?_ | refine bD ?_ | refine bN ?_)) (hb1.mono (by omega)); have x2 := cell_blk (j := 0) (v := .slice none 0 0) HX.out rfl; have f2 := frozen_blk (j := 0) HX.out; have l2 := (Array.getElem?_eq_some_iff.1 HX.out).1; clear hb1)
  refine bodyPost_ret (v := .agg #[.slice A1 xs.length c1]) (by simp [results, Try.results67, go_sem, x2, l2]) rfl ⟨A1, c1, rfl, (R1.weak (by omega)).set_box HX.out (by decide), hbw.setCell (show w.heap.size ≤ w.heap.size + 1 by omega) _⟩
end Go.Proofs.Ytgdleimdenbnlaa
