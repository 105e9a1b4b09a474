/- Contracts of HasSpot and CanBeKept of both sides. Condition: rows are short. -/
import Derived.Test.YtabmfaamadbefaaGreatQg
import Derived.Test.YtabmfaamadbefaaGreatHsp
import Derived.Test.YtabmfaamadbefaaGreatRt
set_option linter.unusedVariables false
set_option linter.unusedSimpArgs false
set_option linter.unusedSectionVars false
namespace Go.Proofs.YtabmfaamadbefaaGreat
open Go.RowKit
def canR (r : RoomV) (x y d : Int) : Bool := (keptR r).2 && hasSpotR (keptR r).1 x y d
set_option maxRecDepth 100000 in
set_option maxHeartbeats 8000000 in
theorem impl_CanBeKept_eq {r : RoomV} {Ar1 Ar2 Ar3 : Option Addr} {cr1 cr2 cr3 : Nat} {x1 y1 d1 : Int} {w : World} {v : Bool} (Rr : RM w r Ar1 Ar2 cr2 Ar3 cr3) (hsr : r.Short) (hS : SpB x1 y1 d1) (hr : Hid (canR r x1 y1 d1 = v)) :
    Calls Tryz.prog 23 #[.agg #[.slice Ar1 r.m.length cr1, .int .i64 r.q, .int .i64 r.bx, .int .i64 r.by_, .int .i64 r.lo, .int .i64 r.hi, .slice Ar2 r.ns.length cr2, .slice Ar3 r.ls.length cr3], .agg #[.int .i64 x1, .int .i64 y1, .int .i64 d1]] w (fun e w' => e = .returned (.bool v) ∧ Below w.heap.size w w') := by
  have hk := hr.out
  unfold canR at hk
  clear hr
  obtain ⟨⟨p, t⟩, hx⟩ : ∃ s, keptR r = s := ⟨_, rfl⟩
  rw [hx] at hk
  have HX := Lib.hid hx
  have lp := keptR_short hx
  clear hx
  cases t with
  | false =>
    obtain rfl : false = v := hk
    go_enter Tryz.func23, Tryz.ntmps23
    go_wp2_with fail
    obtain ⟨V, hV⟩ : ∃ V, ((w.alloc (.cells #[.slice Ar1 r.m.length cr1, .int .i64 r.q, .int .i64 r.bx, .int .i64 r.by_, .int .i64 r.lo, .int .i64 r.hi, .slice Ar2 r.ns.length cr2, .slice Ar3 r.ls.length cr3] 28)).alloc (.cells #[.int .i64 x1, .int .i64 y1, .int .i64 d1] 52)) = V := ⟨_, rfl⟩
    have TV : Below w.heap.size w V := by rw [← hV]; exact (by repeat (first | exact bR | refine bO ?_ | refine bA ?_ | refine bS ?_ | refine bD ?_ | refine bN ?_))
    have X0 : V.heap[w.heap.size]? = some (.cells #[.slice Ar1 r.m.length cr1, .int .i64 r.q, .int .i64 r.bx, .int .i64 r.by_, .int .i64 r.lo, .int .i64 r.hi, .slice Ar2 r.ns.length cr2, .slice Ar3 r.ls.length cr3] 28 (0, 0)) := by rw [← hV]; exact ((heap_old_at (by first | (simp; done) | (simp <;> omega))).trans (heap_new_at (by first | (simp; done) | (simp <;> omega)) rfl))
    have X1 : V.heap[w.heap.size + 1]? = some (.cells #[.int .i64 x1, .int .i64 y1, .int .i64 d1] 52 (0, 0)) := by rw [← hV]; exact (heap_new_at (by first | (simp; done) | (simp <;> omega)) rfl)
    rw [hV]
    clear hV
    have hbb1 : w.heap.size ≤ w.heap.size + 1 := by omega
    generalize w.heap.size + 1 = ba1 at X1 hbb1 ⊢
    obtain ⟨W0, hW⟩ : ∃ W0, W0 = V := ⟨_, rfl⟩
    rw [← hW]
    have T : Below V.heap.size V W0 := by rw [hW]; exact Below.refl _ _
    clear hW
    have Br := box_below (Lib.hid X0) T
    clear X0
    have Bs := box_below (Lib.hid X1) T
    clear X1
    have s0 : w.heap.size ≤ V.heap.size := TV.size
    obtain ⟨ba0, hba0⟩ : ∃ b, w.heap.size = b := ⟨_, rfl⟩
    rw [hba0] at Br
    try rw [hba0]
    have Sr := Rr.below (TV.trans (T.mono s0))
    refine (impl_KeptRegion_eq (Sr.below (by repeat (first | exact bR | refine bO ?_ | refine bA ?_ | refine bS ?_ | refine bD ?_ | refine bN ?_))) hsr HX).mono ?_
    rintro e W1 ⟨ap, dp, rfl, Xp, hb⟩
    have K : Below W0.heap.size W0 W1 := Below.trans (by repeat (first | exact bR | refine bO ?_ | refine bA ?_ | refine bS ?_ | refine bD ?_ | refine bN ?_)) (hb.mono (by first | exact Nat.le_refl _ | simp [ov_size]))
    replace Xp := Xp.weak (B' := V.heap.size) (by have := T.size; (try simp [ov_size]); omega)
    clear hb
    replace T := T.trans (K.mono T.size)
    replace Br := box_below Br K
    replace Bs := box_below Bs K
    clear K Sr
    have Sr := Rr.below (TV.trans (T.mono s0))
    obtain ⟨Brc0, Brc1, Brc2, Brc3, Brc4, Brc5, Brc6, Brc7, Brl⟩ := cb8 Br
    obtain ⟨Bsc0, Bsc1, Bsc2, Bsl⟩ := cb3 Bs
    go_wp2
    go_ret
    exact ⟨rfl, (by repeat (first | exact TV.trans (T.mono s0) | refine bO ?_ | refine bA ?_ | refine bS ?_ | refine bD ?_ | refine bN ?_))⟩
  | true =>
    have HH : Hid (hasSpotR p x1 y1 d1 = v) := Lib.hid hk
    clear hk
    go_enter Tryz.func23, Tryz.ntmps23
    go_wp2_with fail
    obtain ⟨V, hV⟩ : ∃ V, ((w.alloc (.cells #[.slice Ar1 r.m.length cr1, .int .i64 r.q, .int .i64 r.bx, .int .i64 r.by_, .int .i64 r.lo, .int .i64 r.hi, .slice Ar2 r.ns.length cr2, .slice Ar3 r.ls.length cr3] 28)).alloc (.cells #[.int .i64 x1, .int .i64 y1, .int .i64 d1] 52)) = V := ⟨_, rfl⟩
    have TV : Below w.heap.size w V := by rw [← hV]; exact (by repeat (first | exact bR | refine bO ?_ | refine bA ?_ | refine bS ?_ | refine bD ?_ | refine bN ?_))
    have X0 : V.heap[w.heap.size]? = some (.cells #[.slice Ar1 r.m.length cr1, .int .i64 r.q, .int .i64 r.bx, .int .i64 r.by_, .int .i64 r.lo, .int .i64 r.hi, .slice Ar2 r.ns.length cr2, .slice Ar3 r.ls.length cr3] 28 (0, 0)) := by rw [← hV]; exact ((heap_old_at (by first | (simp; done) | (simp <;> omega))).trans (heap_new_at (by first | (simp; done) | (simp <;> omega)) rfl))
    have X1 : V.heap[w.heap.size + 1]? = some (.cells #[.int .i64 x1, .int .i64 y1, .int .i64 d1] 52 (0, 0)) := by rw [← hV]; exact (heap_new_at (by first | (simp; done) | (simp <;> omega)) rfl)
    rw [hV]
    clear hV
    have hbb1 : w.heap.size ≤ w.heap.size + 1 := by omega
    generalize w.heap.size + 1 = ba1 at X1 hbb1 ⊢
    obtain ⟨W0, hW⟩ : ∃ W0, W0 = V := ⟨_, rfl⟩
    rw [← hW]
    have T : Below V.heap.size V W0 := by rw [hW]; exact Below.refl _ _
    clear hW
    have Br := box_below (Lib.hid X0) T
    clear X0
    have Bs := box_below (Lib.hid X1) T
    clear X1
    have s0 : w.heap.size ≤ V.heap.size := TV.size
    obtain ⟨ba0, hba0⟩ : ∃ b, w.heap.size = b := ⟨_, rfl⟩
    rw [hba0] at Br
    try rw [hba0]
    have Sr := Rr.below (TV.trans (T.mono s0))
    refine (impl_KeptRegion_eq (Sr.below (by repeat (first | exact bR | refine bO ?_ | refine bA ?_ | refine bS ?_ | refine bD ?_ | refine bN ?_))) hsr HX).mono ?_
    rintro e W2 ⟨ap, dp, rfl, Xp, hb⟩
    have K : Below W0.heap.size W0 W2 := Below.trans (by repeat (first | exact bR | refine bO ?_ | refine bA ?_ | refine bS ?_ | refine bD ?_ | refine bN ?_)) (hb.mono (by first | exact Nat.le_refl _ | simp [ov_size]))
    replace Xp := Xp.weak (B' := V.heap.size) (by have := T.size; (try simp [ov_size]); omega)
    clear hb
    replace T := T.trans (K.mono T.size)
    replace Br := box_below Br K
    replace Bs := box_below Bs K
    clear K Sr
    have Sr := Rr.below (TV.trans (T.mono s0))
    obtain ⟨Brc0, Brc1, Brc2, Brc3, Brc4, Brc5, Brc6, Brc7, Brl⟩ := cb8 Br
    obtain ⟨Bsc0, Bsc1, Bsc2, Bsl⟩ := cb3 Bs
    go_wp2_with (first | (go_at_call 30; (first | (with_reducible refine (calls_ov2 (impl_HasSpot_eq ((Xp.below (by repeat (first | exact bR | refine bO ?_ | refine bA ?_ | refine bS ?_ | refine bD ?_ | refine bN ?_))).r3) (by omega) hS HH)).mono ?_) | refine (calls_ov (impl_HasSpot_eq ((Xp.below (by repeat (first | exact bR | refine bO ?_ | refine bA ?_ | refine bS ?_ | refine bD ?_ | refine bN ?_))).r3) (by omega) hS HH)).mono ?_); rintro e w' ⟨rfl, x, rfl⟩))
    go_ret
    exact ⟨rfl, (by repeat (first | exact TV.trans (T.mono s0) | refine bO ?_ | refine bA ?_ | refine bS ?_ | refine bD ?_ | refine bN ?_))⟩

end Go.Proofs.YtabmfaamadbefaaGreat