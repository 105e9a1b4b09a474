/- Contracts of PullBack, of the program and of the reference. Condition: the arguments are ints. -/
import Derived.Test.YtbgdfdibpmfafaaPb
set_option linter.unusedSimpArgs false
set_option linter.unusedVariables false
set_option linter.unusedSectionVars false
namespace Go.Proofs.Ytbgdfdibpmfafaa
open Go.RowKit

def pullR (m : List Int) (q : Int) (hs : List H3) : List H3 × Bool := if turnOk m q = true ∧ regionOk hs = true then movedF (pullF (m.getD 0 0) (m.getD 1 0) (m.getD 2 0) (m.getD 3 0) q) hs else ([], false)
theorem pullR_short {m : List Int} {q : Int} {hs out : List H3} {ok : Bool} (h : pullR m q hs = (out, ok)) : out.length ≤ 1000 := by
  unfold pullR at h
  split at h
  · have := movedF_short h; omega
  · simp at h; rw [h.1]; simp

set_option maxRecDepth 100000 in
set_option maxHeartbeats 4000000 in
theorem pull_eq {hs out : List H3} {ok : Bool} {a b e f q : Int} {A Am : Option Addr} {c cm : Nat} {w : World} (M : MatBd a b e f q) (RM : RI w Am [a, b, e, f]) (R : R3 63 w A c hs) (G : hs = [] ∨ ((∀ g ∈ hs, HOk g) ∧ hs.length ≤ 40)) (hr : Hid (movedF (pullF a b e f q) hs = (out, ok))) :
    Calls Try.prog 25 #[.agg #[.slice A hs.length c], .slice Am 4 cm, .int .i64 q] w (RegPost w out ok) := by
  have key : ∀ W b4 b5, Below w.heap.size w W → W.cell? ⟨b4, 0, none⟩ = some (.slice Am 4 cm) → W.cell? ⟨b5, 0, none⟩ = some (.int .i64 q) → b4 < W.heap.size → b5 < W.heap.size → Calls Try.prog 47 #[.agg #[.slice A hs.length c], .func (.func 48) #[] #[.pointer (some ⟨b4, 0, none⟩), .pointer (some ⟨b5, 0, none⟩)]] W (RegPost W out ok) := fun W b4 b5 T c4 c5 l4 l5 => by
    have hr' := hr.out
    by_cases h0 : hs = []
    · unfold movedF at hr'
      rw [if_pos h0] at hr'
      simp at hr'
      obtain ⟨rfl, rfl⟩ := hr'
      exact moved_void (Lib.hid (by rw [h0]; rfl))
    · obtain ⟨G, h40⟩ := G.resolve_left h0
      exact moved_pull M (RM.below T) c4 c5 l4 l5 G (R.below T) ⟨List.length_pos_iff.2 h0, by omega⟩ (Lib.hid hr')
  have KEY := Lib.hid key
  clear key G M
  go_enter Try.func25, Try.ntmps25
  go_wp2_with fail
  obtain ⟨W0, hW⟩ : ∃ W0, W0 = (((w.alloc (.cells #[.slice A hs.length c] 25)).alloc (.cells #[.slice Am 4 cm] 27)).alloc (.cells #[.int .i64 q] 3)).alloc (.cells #[.slice none 0 0] 25) := ⟨_, rfl⟩
  rw [← hW]
  have T0 : Below w.heap.size w W0 := by rw [hW]; exact (by repeat (first | exact bR | refine bO ?_ | refine bA ?_ | refine bS ?_ | refine bD ?_ | refine bN ?_))
  have X1 : W0.heap[w.heap.size + 1]? = some (.cells #[.slice Am 4 cm] 27 (0, 0)) := by rw [hW]; exact ((heap_old_at (by simp)).trans ((heap_old_at (by simp)).trans (heap_new_at (by simp) rfl)))
  have X2 : W0.heap[w.heap.size + 1 + 1]? = some (.cells #[.int .i64 q] 3 (0, 0)) := by rw [hW]; exact ((heap_old_at (by simp)).trans (heap_new_at (by simp) rfl))
  have X3 := Lib.hid (show W0.heap[w.heap.size + 1 + 1 + 1]? = some (.cells #[.slice none 0 0] 25 (0, 0)) by rw [hW]; exact (heap_new_at (by simp) rfl))
  refine (KEY.out W0 _ _ T0 (cell_blk (j := 0) X1 rfl) (cell_blk (j := 0) X2 rfl) (Array.getElem?_eq_some_iff.1 X1).1 (Array.getElem?_eq_some_iff.1 X2).1).mono ?_
  rintro en w2 ⟨A2', c2', rfl, R2', hb2'⟩
  have T2 : Below w.heap.size w w2 := T0.trans (hb2'.mono T0.size)
  have X4 := box_below X3 hb2'
  have HR1 := R2'.weak (B' := w.heap.size) T0.size
  have hb2 : w.heap.size ≤ w.heap.size + 1 + 1 + 1 := by omega
  clear hb2' R2' X1 X2 X3 hW T0
  generalize w.heap.size + 1 + 1 + 1 = b2 at X4 hb2 ⊢
  have x2 := cell_blk (j := 0) (v := .slice none 0 0) X4.out rfl
  have f2 := frozen_blk (j := 0) X4.out
  have l2 := (Array.getElem?_eq_some_iff.1 X4.out).1
  go_wp2
  refine bodyPost_ret (v := .tuple #[.agg #[.slice A2' out.length c2'], .bool ok]) (by simp [results, Try.results25, go_sem, x2, l2]) rfl ⟨A2', c2', rfl, HR1.set_box X4.out (by decide), T2.setCell (show w.heap.size ≤ b2 from hb2) _⟩

theorem turnOk_parts {m : List Int} {q : Int} (hm : turnOk m q = true) : mapOk m q = true ∧ ∃ a b e f, m = [a, b, e, f] ∧ MatBd a b e f q ∧ (a * f - b * e == 0) = false := by
  unfold turnOk at hm
  rw [Bool.and_eq_true] at hm
  obtain ⟨a, b, e, f, rfl, M⟩ := mapOk_parts hm.1
  refine ⟨hm.1, a, b, e, f, rfl, M, ?_⟩
  have h2 : (a * f - b * e != 0) = true := hm.2
  simpa using h2

set_option maxRecDepth 100000 in
set_option maxHeartbeats 4000000 in
theorem impl_PullBack_eq {hs out : List H3} {ok : Bool} {m : List Int} {q : Int} {A Am : Option Addr} {c cm : Nat} {w : World} (R : R3 63 w A c hs) (hl : hs.length ≤ 1000000000) (RM : RI w Am m) (hm : m.length ≤ 1048576) (hr : Hid (pullR m q hs = (out, ok))) :
    Calls Try.prog 8 #[.agg #[.slice A hs.length c], .slice Am m.length cm, .int .i64 q] w (RegPost w out ok) := by
  have hr' := hr.out
  clear hr
  obtain ⟨rk, hrk⟩ : ∃ v, regionOk hs = v := ⟨_, rfl⟩
  obtain ⟨tk, htk⟩ : ∃ v, turnOk m q = v := ⟨_, rfl⟩
  have HRK := Lib.hid hrk
  have HTK := Lib.hid htk
  unfold pullR at hr'
  rw [hrk, htk] at hr'
  by_cases hall : tk = true ∧ rk = true
  · obtain ⟨rfl, rfl⟩ := hall
    rw [if_pos ⟨rfl, rfl⟩] at hr'
    obtain ⟨_, a, b, e, f, rfl, M, _⟩ := turnOk_parts htk
    have G : hs = [] ∨ ((∀ g ∈ hs, HOk g) ∧ hs.length ≤ 40) := by
      by_cases h0 : hs = []
      · exact .inl h0
      · obtain ⟨G, _, h40⟩ := regionOk_parts hrk h0; exact .inr ⟨G, h40⟩
    have HR : Hid (movedF (pullF a b e f q) hs = (out, ok)) := Lib.hid hr'
    clear hr' hrk htk
    go_enter Try.func8, Try.ntmps8
    go_wp2_with (first | (go_at_call 24; (first | (with_reducible refine (calls_ov2 (isTurnable_eq (m := [a, b, e, f]) (by exact RM.below (by repeat (first | exact bR | refine bO ?_ | refine bA ?_ | refine bS ?_ | refine bD ?_ | refine bN ?_))) (by first | simp | decide) HTK)).mono ?_) | refine (calls_ov (isTurnable_eq (m := [a, b, e, f]) (by exact RM.below (by repeat (first | exact bR | refine bO ?_ | refine bA ?_ | refine bS ?_ | refine bD ?_ | refine bN ?_))) (by first | simp | decide) HTK)).mono ?_); rintro e w' ⟨rfl, x, rfl⟩) | (go_at_call 9; (first | (with_reducible refine (calls_ov2 (impl_RegionOk_eq (by repeat (first | assumption | refine R3.ov ?_ _ | refine R3.alloc ?_ _)) hl HRK)).mono ?_) | refine (calls_ov (impl_RegionOk_eq (by repeat (first | assumption | refine R3.ov ?_ _ | refine R3.alloc ?_ _)) hl HRK)).mono ?_); rintro e w' ⟨rfl, x, rfl⟩))
    refine (pull_eq M (RM.below (by repeat (first | exact bR | refine bO ?_ | refine bA ?_ | refine bS ?_ | refine bD ?_ | refine bN ?_))) (R.below (by repeat (first | exact bR | refine bO ?_ | refine bA ?_ | refine bS ?_ | refine bD ?_ | refine bN ?_))) G HR).mono ?_
    rintro en w2 ⟨A2', c2', rfl, R2', hb2'⟩
    have T2 : Below w.heap.size w w2 := Below.trans (by repeat (first | exact bR | refine bO ?_ | refine bA ?_ | refine bS ?_ | refine bD ?_ | refine bN ?_)) (hb2'.mono (by simp [ov_size]; omega))
    have X4 := Lib.hid ((hb2'.block (w.heap.size + 1) (by simp [ov_size]; omega)).trans (ov_blk (heap_new_at (r := some (.cells #[.slice none 0 0] 25 (0, 0))) (by simp) rfl)))
    have HR1 := R2'.weak (B' := w.heap.size) (by simp [ov_size]; omega)
    have hb2 : w.heap.size ≤ w.heap.size + 1 := by omega
    clear hb2' R2'
    generalize w.heap.size + 1 = b2 at X4 hb2 ⊢
    have x2 := cell_blk (j := 0) (v := .slice none 0 0) X4.out rfl
    have f2 := frozen_blk (j := 0) X4.out
    have l2 := (Array.getElem?_eq_some_iff.1 X4.out).1
    go_wp2
    refine bodyPost_ret (v := .tuple #[.agg #[.slice A2' out.length c2'], .bool ok]) (by simp [results, Try.results8, go_sem, x2, l2]) rfl ⟨A2', c2', rfl, HR1.set_box X4.out (by decide), T2.setCell (show w.heap.size ≤ b2 from hb2) _⟩
  · rw [if_neg hall] at hr'
    simp at hr'
    obtain ⟨rfl, rfl⟩ := hr'
    have hc : tk = false ∨ (tk = true ∧ rk = false) := by cases rk <;> cases tk <;> simp at hall ⊢
    clear hall hrk htk
    rcases hc with rfl | ⟨rfl, rfl⟩
    all_goals
      go_enter Try.func8, Try.ntmps8
      go_wp2_with (first | (go_at_call 24; (first | (with_reducible refine (calls_ov2 (isTurnable_eq (by exact RM.below (by repeat (first | exact bR | refine bO ?_ | refine bA ?_ | refine bS ?_ | refine bD ?_ | refine bN ?_))) (by omega) HTK)).mono ?_) | refine (calls_ov (isTurnable_eq (by exact RM.below (by repeat (first | exact bR | refine bO ?_ | refine bA ?_ | refine bS ?_ | refine bD ?_ | refine bN ?_))) (by omega) HTK)).mono ?_); rintro e w' ⟨rfl, x, rfl⟩) | (go_at_call 9; (first | (with_reducible refine (calls_ov2 (impl_RegionOk_eq (by repeat (first | assumption | refine R3.ov ?_ _ | refine R3.alloc ?_ _)) hl HRK)).mono ?_) | refine (calls_ov (impl_RegionOk_eq (by repeat (first | assumption | refine R3.ov ?_ _ | refine R3.alloc ?_ _)) hl HRK)).mono ?_); rintro e w' ⟨rfl, x, rfl⟩))
      refine bodyPost_ret (v := .tuple #[.agg #[.slice none 0 0], .bool false]) (by simp [results, Try.results8, go_sem]) rfl ⟨none, 0, rfl, RB.nil _ _ _, (by repeat (first | exact bR | refine bO ?_ | refine bA ?_ | refine bS ?_ | refine bD ?_ | refine bN ?_))⟩

end Go.Proofs.Ytbgdfdibpmfafaa
