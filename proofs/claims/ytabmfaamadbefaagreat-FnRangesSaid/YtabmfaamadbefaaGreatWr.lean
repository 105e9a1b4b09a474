/- WithRange and WithNoise, of the program and of the reference. Condition: rows of at most 2^20. -/
import Derived.Test.YtabmfaamadbefaaGreatCq
set_option linter.unusedVariables false
set_option linter.unusedSimpArgs false
set_option linter.unusedSectionVars false
namespace Go.Proofs.YtabmfaamadbefaaGreat
open Go.ChangeShapes Go.WideShapes Go.ChangeAt Go.RowKit Go.Joins
def zeroRoom : RoomV := ⟨[], 0, 0, 0, 0, 0, [], []⟩
def withR (r x : RoomV) : RoomV × Bool := if roomOk r = true ∧ roomOk x = true then (x, true) else (zeroRoom, false)
def rangeX (r : RoomV) (lo hi : Int) : RoomV := ⟨r.m, r.q, r.bx, r.by_, lo, hi, r.ns, r.ls⟩
def noiseX (r : RoomV) (ns : List H3) : RoomV := ⟨r.m, r.q, r.bx, r.by_, r.lo, r.hi, ns, r.ls⟩
theorem withR_short {r x out : RoomV} {ok : Bool} (hs : x.Short) (h : withR r x = (out, ok)) : out.Short := by
  unfold withR at h
  split at h
  · injection h with h _; subst h; exact hs
  · injection h with h _; subst h; exact ⟨by decide, by decide, by decide⟩
theorem rangeX_short {r : RoomV} {lo hi : Int} (h : r.Short) : (rangeX r lo hi).Short := ⟨h.m, h.ns, h.ls⟩
theorem noiseX_short {r : RoomV} {ns : List H3} (h : r.Short) (hn : ns.length ≤ 1048576) : (noiseX r ns).Short := ⟨h.m, hn, h.ls⟩
theorem roomOk_m {r : RoomV} (h : roomOk r = true) : 0 < r.m.length := by
  unfold roomOk turnOk mapOk at h
  simp only [Bool.and_eq_true, decide_eq_true_eq] at h
  omega
theorem zero_post {w w' : World} (hb : Below w.heap.size w w') : RoomPost w zeroRoom false (.returned (.tuple #[.agg #[.slice none 0 0, .int .i64 0, .int .i64 0, .int .i64 0, .int .i64 0, .int .i64 0, .slice none 0 0, .slice none 0 0], .bool false])) w' := ⟨none, 0, none, 0, none, 0, rfl, ⟨RN.nil _ _, RB.nil _ _ _, RB.nil _ _ _, fun k h => by cases h⟩, hb⟩

set_option maxRecDepth 100000 in
set_option maxHeartbeats 8000000 in
theorem ifRoom_true {r : RoomV} {Ar1 Ar2 Ar3 : Option Addr} {cr1 cr2 cr3 : Nat} {w : World}  (Rr : RM w r Ar1 Ar2 cr2 Ar3 cr3) (hsr : r.Short) (h : Hid (roomOk r = true)) :
    Calls Tryz.prog 46 #[.agg #[.slice Ar1 r.m.length cr1, .int .i64 r.q, .int .i64 r.bx, .int .i64 r.by_, .int .i64 r.lo, .int .i64 r.hi, .slice Ar2 r.ns.length cr2, .slice Ar3 r.ls.length cr3]] w (fun e w' => e = .returned (.tuple #[.agg #[.slice Ar1 r.m.length cr1, .int .i64 r.q, .int .i64 r.bx, .int .i64 r.by_, .int .i64 r.lo, .int .i64 r.hi, .slice Ar2 r.ns.length cr2, .slice Ar3 r.ls.length cr3], .bool true]) ∧ Below w.heap.size w w') := by
  go_enter Tryz.func46, Tryz.ntmps46
  go_wp2_with fail
  obtain ⟨V, hV⟩ : ∃ V, V = w := ⟨_, rfl⟩
  have TV : Below w.heap.size w V := by rw [hV]; exact Below.refl _ _
  have s0 : w.heap.size ≤ V.heap.size := TV.size
  obtain ⟨W0, hW⟩ : ∃ W0, W0 = ((w.alloc (.cells #[.slice Ar1 r.m.length cr1, .int .i64 r.q, .int .i64 r.bx, .int .i64 r.by_, .int .i64 r.lo, .int .i64 r.hi, .slice Ar2 r.ns.length cr2, .slice Ar3 r.ls.length cr3] 28)).alloc (.cells #[.slice none 0 0, .int .i64 0, .int .i64 0, .int .i64 0, .int .i64 0, .int .i64 0, .slice none 0 0, .slice none 0 0] 28)) := ⟨_, rfl⟩
  rw [← hW]
  have T : Below V.heap.size V W0 := by rw [hW, hV]; exact (by repeat (first | exact bR | refine bO ?_ | refine bA ?_ | refine bS ?_ | refine bD ?_ | refine bN ?_))
  have X0 : W0.heap[w.heap.size]? = some (.cells #[.slice Ar1 r.m.length cr1, .int .i64 r.q, .int .i64 r.bx, .int .i64 r.by_, .int .i64 r.lo, .int .i64 r.hi, .slice Ar2 r.ns.length cr2, .slice Ar3 r.ls.length cr3] 28 (0, 0)) := by rw [hW]; exact ((heap_old_at (by first | (simp; done) | (simp <;> omega))).trans (heap_new_at (by first | (simp; done) | (simp <;> omega)) rfl))
  have hbb0 : V.heap.size ≤ w.heap.size := by rw [hV]; omega
  have X1 : W0.heap[w.heap.size + 1]? = some (.cells #[.slice none 0 0, .int .i64 0, .int .i64 0, .int .i64 0, .int .i64 0, .int .i64 0, .slice none 0 0, .slice none 0 0] 28 (0, 0)) := by rw [hW]; exact (heap_new_at (by first | (simp; done) | (simp <;> omega)) rfl)
  have hbb1 : V.heap.size ≤ w.heap.size + 1 := by rw [hV]; omega
  have hne01 : w.heap.size ≠ w.heap.size + 1 := by omega
  have hne10 : w.heap.size + 1 ≠ w.heap.size := by omega
  clear hW hV
  generalize w.heap.size + 1 = ba1 at X1 hbb1 hne01 hne10 ⊢
  obtain ⟨ba0, hba0⟩ : ∃ b, w.heap.size = b := ⟨_, rfl⟩
  rw [hba0] at X0 hbb0 hne01 hne10
  try rw [hba0]
  have Br := Lib.hid X0
  clear X0
  have Bo := Lib.hid X1
  clear X1
  have Sr := Rr.below (TV.trans (T.mono s0))
  refine (calls_ov (impl_RoomOk_eq (Sr.below (by repeat (first | exact bR | refine bO ?_ | refine bA ?_ | refine bS ?_ | refine bD ?_ | refine bN ?_))) hsr h)).mono ?_
  rintro e w' ⟨rfl, x, rfl⟩
  obtain ⟨W1, hW⟩ : ∃ W1, W1 = ov W0 x := ⟨_, rfl⟩
  rw [← hW]
  have K : Below W0.heap.size W0 W1 := by rw [hW]; exact (by repeat (first | exact bR | refine bO ?_ | refine bA ?_ | refine bS ?_ | refine bD ?_ | refine bN ?_))
  clear hW
  replace T := T.trans (K.mono T.size)
  replace Br := box_below Br K
  replace Bo := box_below Bo K
  clear K Sr
  have Sr := Rr.below (TV.trans (T.mono s0))
  obtain ⟨Brc0, Brc1, Brc2, Brc3, Brc4, Brc5, Brc6, Brc7, Brl⟩ := cb8 Br
  obtain ⟨Boc0, Boc1, Boc2, Boc3, Boc4, Boc5, Boc6, Boc7, Bol⟩ := cb8 Bo
  have Bof0 := frozen_blk (j := 0) Bo.out
  have Bof1 := frozen_blk (j := 1) Bo.out
  have Bof2 := frozen_blk (j := 2) Bo.out
  have Bof3 := frozen_blk (j := 3) Bo.out
  have Bof4 := frozen_blk (j := 4) Bo.out
  have Bof5 := frozen_blk (j := 5) Bo.out
  have Bof6 := frozen_blk (j := 6) Bo.out
  have Bof7 := frozen_blk (j := 7) Bo.out
  go_wp2
  refine bodyPost_ret (v := .tuple #[.agg #[.slice Ar1 r.m.length cr1, .int .i64 r.q, .int .i64 r.bx, .int .i64 r.by_, .int .i64 r.lo, .int .i64 r.hi, .slice Ar2 r.ns.length cr2, .slice Ar3 r.ls.length cr3], .bool true]) (by simp [results, Tryz.results46, go_sem, Boc0, Bof0, Boc1, Bof1, Boc2, Bof2, Boc3, Bof3, Boc4, Bof4, Boc5, Bof5, Boc6, Bof6, Boc7, Bof7, Bol]) rfl ⟨rfl, below8 (TV.trans (T.mono s0)) (Nat.le_trans s0 hbb1)⟩
set_option maxRecDepth 100000 in
set_option maxHeartbeats 8000000 in
theorem ifRoom_false {r : RoomV} {Ar1 Ar2 Ar3 : Option Addr} {cr1 cr2 cr3 : Nat} {w : World}  (Rr : RM w r Ar1 Ar2 cr2 Ar3 cr3) (hsr : r.Short) (h : Hid (roomOk r = false)) :
    Calls Tryz.prog 46 #[.agg #[.slice Ar1 r.m.length cr1, .int .i64 r.q, .int .i64 r.bx, .int .i64 r.by_, .int .i64 r.lo, .int .i64 r.hi, .slice Ar2 r.ns.length cr2, .slice Ar3 r.ls.length cr3]] w (fun e w' => e = .returned (.tuple #[.agg #[.slice none 0 0, .int .i64 0, .int .i64 0, .int .i64 0, .int .i64 0, .int .i64 0, .slice none 0 0, .slice none 0 0], .bool false]) ∧ Below w.heap.size w w') := by
  go_enter Tryz.func46, Tryz.ntmps46
  go_wp2_with fail
  obtain ⟨V, hV⟩ : ∃ V, V = w := ⟨_, rfl⟩
  have TV : Below w.heap.size w V := by rw [hV]; exact Below.refl _ _
  have s0 : w.heap.size ≤ V.heap.size := TV.size
  obtain ⟨W0, hW⟩ : ∃ W0, W0 = ((w.alloc (.cells #[.slice Ar1 r.m.length cr1, .int .i64 r.q, .int .i64 r.bx, .int .i64 r.by_, .int .i64 r.lo, .int .i64 r.hi, .slice Ar2 r.ns.length cr2, .slice Ar3 r.ls.length cr3] 28)).alloc (.cells #[.slice none 0 0, .int .i64 0, .int .i64 0, .int .i64 0, .int .i64 0, .int .i64 0, .slice none 0 0, .slice none 0 0] 28)) := ⟨_, rfl⟩
  rw [← hW]
  have T : Below V.heap.size V W0 := by rw [hW, hV]; exact (by repeat (first | exact bR | refine bO ?_ | refine bA ?_ | refine bS ?_ | refine bD ?_ | refine bN ?_))
  have X0 : W0.heap[w.heap.size]? = some (.cells #[.slice Ar1 r.m.length cr1, .int .i64 r.q, .int .i64 r.bx, .int .i64 r.by_, .int .i64 r.lo, .int .i64 r.hi, .slice Ar2 r.ns.length cr2, .slice Ar3 r.ls.length cr3] 28 (0, 0)) := by rw [hW]; exact ((heap_old_at (by first | (simp; done) | (simp <;> omega))).trans (heap_new_at (by first | (simp; done) | (simp <;> omega)) rfl))
  have hbb0 : V.heap.size ≤ w.heap.size := by rw [hV]; omega
  have X1 : W0.heap[w.heap.size + 1]? = some (.cells #[.slice none 0 0, .int .i64 0, .int .i64 0, .int .i64 0, .int .i64 0, .int .i64 0, .slice none 0 0, .slice none 0 0] 28 (0, 0)) := by rw [hW]; exact (heap_new_at (by first | (simp; done) | (simp <;> omega)) rfl)
  have hbb1 : V.heap.size ≤ w.heap.size + 1 := by rw [hV]; omega
  have hne01 : w.heap.size ≠ w.heap.size + 1 := by omega
  have hne10 : w.heap.size + 1 ≠ w.heap.size := by omega
  clear hW hV
  generalize w.heap.size + 1 = ba1 at X1 hbb1 hne01 hne10 ⊢
  obtain ⟨ba0, hba0⟩ : ∃ b, w.heap.size = b := ⟨_, rfl⟩
  rw [hba0] at X0 hbb0 hne01 hne10
  try rw [hba0]
  have Br := Lib.hid X0
  clear X0
  have Bo := Lib.hid X1
  clear X1
  have Sr := Rr.below (TV.trans (T.mono s0))
  refine (calls_ov (impl_RoomOk_eq (Sr.below (by repeat (first | exact bR | refine bO ?_ | refine bA ?_ | refine bS ?_ | refine bD ?_ | refine bN ?_))) hsr h)).mono ?_
  rintro e w' ⟨rfl, x, rfl⟩
  obtain ⟨W1, hW⟩ : ∃ W1, W1 = ov W0 x := ⟨_, rfl⟩
  rw [← hW]
  have K : Below W0.heap.size W0 W1 := by rw [hW]; exact (by repeat (first | exact bR | refine bO ?_ | refine bA ?_ | refine bS ?_ | refine bD ?_ | refine bN ?_))
  clear hW
  replace T := T.trans (K.mono T.size)
  replace Br := box_below Br K
  replace Bo := box_below Bo K
  clear K Sr
  have Sr := Rr.below (TV.trans (T.mono s0))
  obtain ⟨Brc0, Brc1, Brc2, Brc3, Brc4, Brc5, Brc6, Brc7, Brl⟩ := cb8 Br
  obtain ⟨Boc0, Boc1, Boc2, Boc3, Boc4, Boc5, Boc6, Boc7, Bol⟩ := cb8 Bo
  have Bof0 := frozen_blk (j := 0) Bo.out
  have Bof1 := frozen_blk (j := 1) Bo.out
  have Bof2 := frozen_blk (j := 2) Bo.out
  have Bof3 := frozen_blk (j := 3) Bo.out
  have Bof4 := frozen_blk (j := 4) Bo.out
  have Bof5 := frozen_blk (j := 5) Bo.out
  have Bof6 := frozen_blk (j := 6) Bo.out
  have Bof7 := frozen_blk (j := 7) Bo.out
  go_wp2
  refine bodyPost_ret (v := .tuple #[.agg #[.slice none 0 0, .int .i64 0, .int .i64 0, .int .i64 0, .int .i64 0, .int .i64 0, .slice none 0 0, .slice none 0 0], .bool false]) (by simp [results, Tryz.results46, go_sem, Boc0, Bof0, Boc1, Bof1, Boc2, Bof2, Boc3, Bof3, Boc4, Bof4, Boc5, Bof5, Boc6, Bof6, Boc7, Bof7, Bol]) rfl ⟨rfl, below8 (TV.trans (T.mono s0)) (Nat.le_trans s0 hbb1)⟩
set_option maxRecDepth 100000 in
set_option maxHeartbeats 8000000 in
theorem impl_WithRange_eq {r : RoomV} {Ar1 Ar2 Ar3 : Option Addr} {cr1 cr2 cr3 : Nat} {n1 : Int} {n2 : Int} {w : World} {out : RoomV} {ok : Bool} (Rr : RM w r Ar1 Ar2 cr2 Ar3 cr3) (hsr : r.Short) (hr : Hid (withR r (rangeX r n1 n2) = (out, ok))) :
    Calls Tryz.prog 10 #[.agg #[.slice Ar1 r.m.length cr1, .int .i64 r.q, .int .i64 r.bx, .int .i64 r.by_, .int .i64 r.lo, .int .i64 r.hi, .slice Ar2 r.ns.length cr2, .slice Ar3 r.ls.length cr3], .int .i64 n1, .int .i64 n2] w (RoomPost w out ok) := by
  have hk := hr.out
  clear hr
  unfold withR at hk
  obtain ⟨t1, h1⟩ : ∃ t, roomOk r = t := ⟨_, rfl⟩
  obtain ⟨t2, h2⟩ : ∃ t, roomOk (rangeX r n1 n2) = t := ⟨_, rfl⟩
  rw [h1, h2] at hk
  have H1 := Lib.hid h1
  have H2 := Lib.hid h2
  have hsx : ((rangeX r n1 n2)).Short := rangeX_short hsr
  cases t1 with
  | false =>
    rw [if_neg (by simp)] at hk
    injection hk with e1 e2
    subst e1 e2
    clear h1 h2
    go_enter Tryz.func10, Tryz.ntmps10
    go_wp2_with fail
    obtain ⟨V, hV⟩ : ∃ V, V = w := ⟨_, rfl⟩
    have TV : Below w.heap.size w V := by rw [hV]; exact Below.refl _ _
    have s0 : w.heap.size ≤ V.heap.size := TV.size
    obtain ⟨W0, hW⟩ : ∃ W0, W0 = ((w.alloc (.cells #[.slice Ar1 r.m.length cr1, .int .i64 r.q, .int .i64 r.bx, .int .i64 r.by_, .int .i64 r.lo, .int .i64 r.hi, .slice Ar2 r.ns.length cr2, .slice Ar3 r.ls.length cr3] 28)).alloc (.cells #[.slice none 0 0, .int .i64 0, .int .i64 0, .int .i64 0, .int .i64 0, .int .i64 0, .slice none 0 0, .slice none 0 0] 28)) := ⟨_, rfl⟩
    rw [← hW]
    have T : Below V.heap.size V W0 := by rw [hW, hV]; exact (by repeat (first | exact bR | refine bO ?_ | refine bA ?_ | refine bS ?_ | refine bD ?_ | refine bN ?_))
    have X0 : W0.heap[w.heap.size]? = some (.cells #[.slice Ar1 r.m.length cr1, .int .i64 r.q, .int .i64 r.bx, .int .i64 r.by_, .int .i64 r.lo, .int .i64 r.hi, .slice Ar2 r.ns.length cr2, .slice Ar3 r.ls.length cr3] 28 (0, 0)) := by rw [hW]; exact ((heap_old_at (by first | (simp; done) | (simp <;> omega))).trans (heap_new_at (by first | (simp; done) | (simp <;> omega)) rfl))
    have hbb0 : V.heap.size ≤ w.heap.size := by rw [hV]; omega
    have X1 : W0.heap[w.heap.size + 1]? = some (.cells #[.slice none 0 0, .int .i64 0, .int .i64 0, .int .i64 0, .int .i64 0, .int .i64 0, .slice none 0 0, .slice none 0 0] 28 (0, 0)) := by rw [hW]; exact (heap_new_at (by first | (simp; done) | (simp <;> omega)) rfl)
    have hbb1 : V.heap.size ≤ w.heap.size + 1 := by rw [hV]; omega
    have hne01 : w.heap.size ≠ w.heap.size + 1 := by omega
    have hne10 : w.heap.size + 1 ≠ w.heap.size := by omega
    clear hW hV
    generalize w.heap.size + 1 = ba1 at X1 hbb1 hne01 hne10 ⊢
    obtain ⟨ba0, hba0⟩ : ∃ b, w.heap.size = b := ⟨_, rfl⟩
    rw [hba0] at X0 hbb0 hne01 hne10
    try rw [hba0]
    have Br := Lib.hid X0
    clear X0
    have Bo := Lib.hid X1
    clear X1
    have Sr := Rr.below (TV.trans (T.mono s0))
    refine (calls_ov (impl_RoomOk_eq (Sr.below (by repeat (first | exact bR | refine bO ?_ | refine bA ?_ | refine bS ?_ | refine bD ?_ | refine bN ?_))) hsr H1)).mono ?_
    rintro e w' ⟨rfl, x, rfl⟩
    obtain ⟨W1, hW⟩ : ∃ W1, W1 = ov W0 x := ⟨_, rfl⟩
    rw [← hW]
    have K : Below W0.heap.size W0 W1 := by rw [hW]; exact (by repeat (first | exact bR | refine bO ?_ | refine bA ?_ | refine bS ?_ | refine bD ?_ | refine bN ?_))
    clear hW
    replace T := T.trans (K.mono T.size)
    replace Br := box_below Br K
    replace Bo := box_below Bo K
    clear K Sr
    have Sr := Rr.below (TV.trans (T.mono s0))
    obtain ⟨Brc0, Brc1, Brc2, Brc3, Brc4, Brc5, Brc6, Brc7, Brl⟩ := cb8 Br
    obtain ⟨Boc0, Boc1, Boc2, Boc3, Boc4, Boc5, Boc6, Boc7, Bol⟩ := cb8 Bo
    have Bof0 := frozen_blk (j := 0) Bo.out
    have Bof1 := frozen_blk (j := 1) Bo.out
    have Bof2 := frozen_blk (j := 2) Bo.out
    have Bof3 := frozen_blk (j := 3) Bo.out
    have Bof4 := frozen_blk (j := 4) Bo.out
    have Bof5 := frozen_blk (j := 5) Bo.out
    have Bof6 := frozen_blk (j := 6) Bo.out
    have Bof7 := frozen_blk (j := 7) Bo.out
    go_wp2
    refine bodyPost_ret (v := .tuple #[.agg #[.slice none 0 0, .int .i64 0, .int .i64 0, .int .i64 0, .int .i64 0, .int .i64 0, .slice none 0 0, .slice none 0 0], .bool false]) (by simp [results, Tryz.results10, go_sem, Boc0, Bof0, Boc1, Bof1, Boc2, Bof2, Boc3, Bof3, Boc4, Bof4, Boc5, Bof5, Boc6, Bof6, Boc7, Bof7, Bol]) rfl (zero_post (below8 (TV.trans (T.mono s0)) (Nat.le_trans s0 hbb1)))
  | true =>
    have h4 := roomOk_m h1
    cases t2 with
    | false =>
      rw [if_neg (by simp)] at hk
      injection hk with e1 e2
      subst e1 e2
      clear h1 h2
      go_enter Tryz.func10, Tryz.ntmps10
      go_wp2_with fail
      obtain ⟨V, hV⟩ : ∃ V, V = w := ⟨_, rfl⟩
      have TV : Below w.heap.size w V := by rw [hV]; exact Below.refl _ _
      have s0 : w.heap.size ≤ V.heap.size := TV.size
      obtain ⟨W0, hW⟩ : ∃ W0, W0 = ((w.alloc (.cells #[.slice Ar1 r.m.length cr1, .int .i64 r.q, .int .i64 r.bx, .int .i64 r.by_, .int .i64 r.lo, .int .i64 r.hi, .slice Ar2 r.ns.length cr2, .slice Ar3 r.ls.length cr3] 28)).alloc (.cells #[.slice none 0 0, .int .i64 0, .int .i64 0, .int .i64 0, .int .i64 0, .int .i64 0, .slice none 0 0, .slice none 0 0] 28)) := ⟨_, rfl⟩
      rw [← hW]
      have T : Below V.heap.size V W0 := by rw [hW, hV]; exact (by repeat (first | exact bR | refine bO ?_ | refine bA ?_ | refine bS ?_ | refine bD ?_ | refine bN ?_))
      have X0 : W0.heap[w.heap.size]? = some (.cells #[.slice Ar1 r.m.length cr1, .int .i64 r.q, .int .i64 r.bx, .int .i64 r.by_, .int .i64 r.lo, .int .i64 r.hi, .slice Ar2 r.ns.length cr2, .slice Ar3 r.ls.length cr3] 28 (0, 0)) := by rw [hW]; exact ((heap_old_at (by first | (simp; done) | (simp <;> omega))).trans (heap_new_at (by first | (simp; done) | (simp <;> omega)) rfl))
      have hbb0 : V.heap.size ≤ w.heap.size := by rw [hV]; omega
      have X1 : W0.heap[w.heap.size + 1]? = some (.cells #[.slice none 0 0, .int .i64 0, .int .i64 0, .int .i64 0, .int .i64 0, .int .i64 0, .slice none 0 0, .slice none 0 0] 28 (0, 0)) := by rw [hW]; exact (heap_new_at (by first | (simp; done) | (simp <;> omega)) rfl)
      have hbb1 : V.heap.size ≤ w.heap.size + 1 := by rw [hV]; omega
      have hne01 : w.heap.size ≠ w.heap.size + 1 := by omega
      have hne10 : w.heap.size + 1 ≠ w.heap.size := by omega
      clear hW hV
      generalize w.heap.size + 1 = ba1 at X1 hbb1 hne01 hne10 ⊢
      obtain ⟨ba0, hba0⟩ : ∃ b, w.heap.size = b := ⟨_, rfl⟩
      rw [hba0] at X0 hbb0 hne01 hne10
      try rw [hba0]
      have Br := Lib.hid X0
      clear X0
      have Bo := Lib.hid X1
      clear X1
      have Sr := Rr.below (TV.trans (T.mono s0))
      refine (calls_ov (impl_RoomOk_eq (Sr.below (by repeat (first | exact bR | refine bO ?_ | refine bA ?_ | refine bS ?_ | refine bD ?_ | refine bN ?_))) hsr H1)).mono ?_
      rintro e w' ⟨rfl, x, rfl⟩
      obtain ⟨W2, hW⟩ : ∃ W2, W2 = ov W0 x := ⟨_, rfl⟩
      rw [← hW]
      have K : Below W0.heap.size W0 W2 := by rw [hW]; exact (by repeat (first | exact bR | refine bO ?_ | refine bA ?_ | refine bS ?_ | refine bD ?_ | refine bN ?_))
      clear hW
      replace T := T.trans (K.mono T.size)
      replace Br := box_below Br K
      replace Bo := box_below Bo K
      clear K Sr
      have Sr := Rr.below (TV.trans (T.mono s0))
      obtain ⟨Brc0, Brc1, Brc2, Brc3, Brc4, Brc5, Brc6, Brc7, Brl⟩ := cb8 Br
      obtain ⟨Boc0, Boc1, Boc2, Boc3, Boc4, Boc5, Boc6, Boc7, Bol⟩ := cb8 Bo
      go_wp2_with fail
      clear Brc0 Brc1 Brc2 Brc3 Brc4 Brc5 Brc6 Brc7 Boc0 Boc1 Boc2 Boc3 Boc4 Boc5 Boc6 Boc7 Brl Bol
      refine (copyRoom_any (Sr.below (by repeat (first | exact bR | refine bO ?_ | refine bA ?_ | refine bS ?_ | refine bD ?_ | refine bN ?_))) hsr h4).mono ?_
      rintro e W3 ⟨axi, dxi, axn, dxn, axl, dxl, rfl, ⟨Xxi, Xxn, Xxl, apx⟩, hb⟩
      have K : Below W2.heap.size W2 W3 := Below.trans (by repeat (first | exact bR | refine bO ?_ | refine bA ?_ | refine bS ?_ | refine bD ?_ | refine bN ?_)) (hb.mono (by first | exact Nat.le_refl _ | simp [ov_size]))
      clear hb
      replace Xxi := Xxi.weak (B' := V.heap.size) (by have := T.size; (try simp [ov_size]); omega)
      replace Xxn := Xxn.weak (B' := V.heap.size) (by have := T.size; (try simp [ov_size]); omega)
      replace Xxl := Xxl.weak (B' := V.heap.size) (by have := T.size; (try simp [ov_size]); omega)
      replace T := T.trans (K.mono T.size)
      replace Br := box_below Br K
      replace Bo := box_below Bo K
      clear K Sr
      have Sr := Rr.below (TV.trans (T.mono s0))
      obtain ⟨Brc0, Brc1, Brc2, Brc3, Brc4, Brc5, Brc6, Brc7, Brl⟩ := cb8 Br
      obtain ⟨Boc0, Boc1, Boc2, Boc3, Boc4, Boc5, Boc6, Boc7, Bol⟩ := cb8 Bo
      go_wp2_with fail
      clear Brc0 Brc1 Brc2 Brc3 Brc4 Brc5 Brc6 Brc7 Boc0 Boc1 Boc2 Boc3 Boc4 Boc5 Boc6 Boc7 Brl Bol
      obtain ⟨bx, hbx⟩ : ∃ b, b = W3.heap.size := ⟨_, rfl⟩
      rw [← hbx]
      have hne0x : ba0 ≠ bx := by have := (Array.getElem?_eq_some_iff.1 Br.out).1; omega
      have hne1x : ba1 ≠ bx := by have := (Array.getElem?_eq_some_iff.1 Bo.out).1; omega
      have hbbx : V.heap.size ≤ bx := by have := T.size; omega
      obtain ⟨W4, hW⟩ : ∃ W, W = W3.alloc (.cells #[.slice axi r.m.length dxi, .int .i64 r.q, .int .i64 r.bx, .int .i64 r.by_, .int .i64 n1, .int .i64 n2, .slice axn r.ns.length dxn, .slice axl r.ls.length dxl] 28) := ⟨_, rfl⟩
      rw [← hW]
      have K : Below W3.heap.size W3 W4 := by rw [hW]; exact (by repeat (first | exact bR | refine bO ?_ | refine bA ?_ | refine bS ?_ | refine bD ?_ | refine bN ?_))
      have Bx := Lib.hid (show W4.heap[bx]? = some (.cells #[.slice axi r.m.length dxi, .int .i64 r.q, .int .i64 r.bx, .int .i64 r.by_, .int .i64 n1, .int .i64 n2, .slice axn r.ns.length dxn, .slice axl r.ls.length dxl] 28 (0, 0)) by rw [hW, hbx]; exact heap_alloc_new _ _)
      clear hW hbx
      replace T := T.trans (K.mono T.size)
      replace Br := box_below Br K
      replace Bo := box_below Bo K
      replace Xxi := Xxi.below K
      replace Xxn := Xxn.below K
      replace Xxl := Xxl.below K
      clear K Sr
      have Sr := Rr.below (TV.trans (T.mono s0))
      refine (calls_ov (ifRoom_false (r := (rangeX r n1 n2)) (RM.below ⟨Xxi.ri, Xxn.r3, Xxl.r3⟩ (by repeat (first | exact bR | refine bO ?_ | refine bA ?_ | refine bS ?_ | refine bD ?_ | refine bN ?_))) hsx H2)).mono ?_
      rintro e w' ⟨rfl, x, rfl⟩
      obtain ⟨W5, hW⟩ : ∃ W5, W5 = ov W4 x := ⟨_, rfl⟩
      rw [← hW]
      have K : Below W4.heap.size W4 W5 := by rw [hW]; exact (by repeat (first | exact bR | refine bO ?_ | refine bA ?_ | refine bS ?_ | refine bD ?_ | refine bN ?_))
      clear hW
      replace T := T.trans (K.mono T.size)
      replace Br := box_below Br K
      replace Bo := box_below Bo K
      replace Bx := box_below Bx K
      replace Xxi := Xxi.below K
      replace Xxn := Xxn.below K
      replace Xxl := Xxl.below K
      clear K Sr
      have Sr := Rr.below (TV.trans (T.mono s0))
      obtain ⟨Brc0, Brc1, Brc2, Brc3, Brc4, Brc5, Brc6, Brc7, Brl⟩ := cb8 Br
      obtain ⟨Boc0, Boc1, Boc2, Boc3, Boc4, Boc5, Boc6, Boc7, Bol⟩ := cb8 Bo
      obtain ⟨Bxc0, Bxc1, Bxc2, Bxc3, Bxc4, Bxc5, Bxc6, Bxc7, Bxl⟩ := cb8 Bx
      have Bof0 := frozen_blk (j := 0) Bo.out
      have Bof1 := frozen_blk (j := 1) Bo.out
      have Bof2 := frozen_blk (j := 2) Bo.out
      have Bof3 := frozen_blk (j := 3) Bo.out
      have Bof4 := frozen_blk (j := 4) Bo.out
      have Bof5 := frozen_blk (j := 5) Bo.out
      have Bof6 := frozen_blk (j := 6) Bo.out
      have Bof7 := frozen_blk (j := 7) Bo.out
      go_wp2
      refine bodyPost_ret (v := .tuple #[.agg #[.slice none 0 0, .int .i64 0, .int .i64 0, .int .i64 0, .int .i64 0, .int .i64 0, .slice none 0 0, .slice none 0 0], .bool false]) (by simp [results, Tryz.results10, go_sem, Boc0, Bof0, Boc1, Bof1, Boc2, Bof2, Boc3, Bof3, Boc4, Bof4, Boc5, Bof5, Boc6, Bof6, Boc7, Bof7, Bol]) rfl (zero_post (below8 (TV.trans (T.mono s0)) (Nat.le_trans s0 hbb1)))
    | true =>
      rw [if_pos ⟨rfl, rfl⟩] at hk
      injection hk with e1 e2
      subst e1 e2
      clear h1 h2
      go_enter Tryz.func10, Tryz.ntmps10
      go_wp2_with fail
      obtain ⟨V, hV⟩ : ∃ V, V = w := ⟨_, rfl⟩
      have TV : Below w.heap.size w V := by rw [hV]; exact Below.refl _ _
      have s0 : w.heap.size ≤ V.heap.size := TV.size
      obtain ⟨W0, hW⟩ : ∃ W0, W0 = ((w.alloc (.cells #[.slice Ar1 r.m.length cr1, .int .i64 r.q, .int .i64 r.bx, .int .i64 r.by_, .int .i64 r.lo, .int .i64 r.hi, .slice Ar2 r.ns.length cr2, .slice Ar3 r.ls.length cr3] 28)).alloc (.cells #[.slice none 0 0, .int .i64 0, .int .i64 0, .int .i64 0, .int .i64 0, .int .i64 0, .slice none 0 0, .slice none 0 0] 28)) := ⟨_, rfl⟩
      rw [← hW]
      have T : Below V.heap.size V W0 := by rw [hW, hV]; exact (by repeat (first | exact bR | refine bO ?_ | refine bA ?_ | refine bS ?_ | refine bD ?_ | refine bN ?_))
      have X0 : W0.heap[w.heap.size]? = some (.cells #[.slice Ar1 r.m.length cr1, .int .i64 r.q, .int .i64 r.bx, .int .i64 r.by_, .int .i64 r.lo, .int .i64 r.hi, .slice Ar2 r.ns.length cr2, .slice Ar3 r.ls.length cr3] 28 (0, 0)) := by rw [hW]; exact ((heap_old_at (by first | (simp; done) | (simp <;> omega))).trans (heap_new_at (by first | (simp; done) | (simp <;> omega)) rfl))
      have hbb0 : V.heap.size ≤ w.heap.size := by rw [hV]; omega
      have X1 : W0.heap[w.heap.size + 1]? = some (.cells #[.slice none 0 0, .int .i64 0, .int .i64 0, .int .i64 0, .int .i64 0, .int .i64 0, .slice none 0 0, .slice none 0 0] 28 (0, 0)) := by rw [hW]; exact (heap_new_at (by first | (simp; done) | (simp <;> omega)) rfl)
      have hbb1 : V.heap.size ≤ w.heap.size + 1 := by rw [hV]; omega
      have hne01 : w.heap.size ≠ w.heap.size + 1 := by omega
      have hne10 : w.heap.size + 1 ≠ w.heap.size := by omega
      clear hW hV
      generalize w.heap.size + 1 = ba1 at X1 hbb1 hne01 hne10 ⊢
      obtain ⟨ba0, hba0⟩ : ∃ b, w.heap.size = b := ⟨_, rfl⟩
      rw [hba0] at X0 hbb0 hne01 hne10
      try rw [hba0]
      have Br := Lib.hid X0
      clear X0
      have Bo := Lib.hid X1
      clear X1
      have Sr := Rr.below (TV.trans (T.mono s0))
      refine (calls_ov (impl_RoomOk_eq (Sr.below (by repeat (first | exact bR | refine bO ?_ | refine bA ?_ | refine bS ?_ | refine bD ?_ | refine bN ?_))) hsr H1)).mono ?_
      rintro e w' ⟨rfl, x, rfl⟩
      obtain ⟨W6, hW⟩ : ∃ W6, W6 = ov W0 x := ⟨_, rfl⟩
      rw [← hW]
      have K : Below W0.heap.size W0 W6 := by rw [hW]; exact (by repeat (first | exact bR | refine bO ?_ | refine bA ?_ | refine bS ?_ | refine bD ?_ | refine bN ?_))
      clear hW
      replace T := T.trans (K.mono T.size)
      replace Br := box_below Br K
      replace Bo := box_below Bo K
      clear K Sr
      have Sr := Rr.below (TV.trans (T.mono s0))
      obtain ⟨Brc0, Brc1, Brc2, Brc3, Brc4, Brc5, Brc6, Brc7, Brl⟩ := cb8 Br
      obtain ⟨Boc0, Boc1, Boc2, Boc3, Boc4, Boc5, Boc6, Boc7, Bol⟩ := cb8 Bo
      go_wp2_with fail
      clear Brc0 Brc1 Brc2 Brc3 Brc4 Brc5 Brc6 Brc7 Boc0 Boc1 Boc2 Boc3 Boc4 Boc5 Boc6 Boc7 Brl Bol
      refine (copyRoom_any (Sr.below (by repeat (first | exact bR | refine bO ?_ | refine bA ?_ | refine bS ?_ | refine bD ?_ | refine bN ?_))) hsr h4).mono ?_
      rintro e W7 ⟨axi, dxi, axn, dxn, axl, dxl, rfl, ⟨Xxi, Xxn, Xxl, apx⟩, hb⟩
      have K : Below W6.heap.size W6 W7 := Below.trans (by repeat (first | exact bR | refine bO ?_ | refine bA ?_ | refine bS ?_ | refine bD ?_ | refine bN ?_)) (hb.mono (by first | exact Nat.le_refl _ | simp [ov_size]))
      clear hb
      replace Xxi := Xxi.weak (B' := V.heap.size) (by have := T.size; (try simp [ov_size]); omega)
      replace Xxn := Xxn.weak (B' := V.heap.size) (by have := T.size; (try simp [ov_size]); omega)
      replace Xxl := Xxl.weak (B' := V.heap.size) (by have := T.size; (try simp [ov_size]); omega)
      replace T := T.trans (K.mono T.size)
      replace Br := box_below Br K
      replace Bo := box_below Bo K
      clear K Sr
      have Sr := Rr.below (TV.trans (T.mono s0))
      obtain ⟨Brc0, Brc1, Brc2, Brc3, Brc4, Brc5, Brc6, Brc7, Brl⟩ := cb8 Br
      obtain ⟨Boc0, Boc1, Boc2, Boc3, Boc4, Boc5, Boc6, Boc7, Bol⟩ := cb8 Bo
      go_wp2_with fail
      clear Brc0 Brc1 Brc2 Brc3 Brc4 Brc5 Brc6 Brc7 Boc0 Boc1 Boc2 Boc3 Boc4 Boc5 Boc6 Boc7 Brl Bol
      obtain ⟨bx, hbx⟩ : ∃ b, b = W7.heap.size := ⟨_, rfl⟩
      rw [← hbx]
      have hne0x : ba0 ≠ bx := by have := (Array.getElem?_eq_some_iff.1 Br.out).1; omega
      have hne1x : ba1 ≠ bx := by have := (Array.getElem?_eq_some_iff.1 Bo.out).1; omega
      have hbbx : V.heap.size ≤ bx := by have := T.size; omega
      obtain ⟨W8, hW⟩ : ∃ W, W = W7.alloc (.cells #[.slice axi r.m.length dxi, .int .i64 r.q, .int .i64 r.bx, .int .i64 r.by_, .int .i64 n1, .int .i64 n2, .slice axn r.ns.length dxn, .slice axl r.ls.length dxl] 28) := ⟨_, rfl⟩
      rw [← hW]
      have K : Below W7.heap.size W7 W8 := by rw [hW]; exact (by repeat (first | exact bR | refine bO ?_ | refine bA ?_ | refine bS ?_ | refine bD ?_ | refine bN ?_))
      have Bx := Lib.hid (show W8.heap[bx]? = some (.cells #[.slice axi r.m.length dxi, .int .i64 r.q, .int .i64 r.bx, .int .i64 r.by_, .int .i64 n1, .int .i64 n2, .slice axn r.ns.length dxn, .slice axl r.ls.length dxl] 28 (0, 0)) by rw [hW, hbx]; exact heap_alloc_new _ _)
      clear hW hbx
      replace T := T.trans (K.mono T.size)
      replace Br := box_below Br K
      replace Bo := box_below Bo K
      replace Xxi := Xxi.below K
      replace Xxn := Xxn.below K
      replace Xxl := Xxl.below K
      clear K Sr
      have Sr := Rr.below (TV.trans (T.mono s0))
      refine (calls_ov (ifRoom_true (r := (rangeX r n1 n2)) (RM.below ⟨Xxi.ri, Xxn.r3, Xxl.r3⟩ (by repeat (first | exact bR | refine bO ?_ | refine bA ?_ | refine bS ?_ | refine bD ?_ | refine bN ?_))) hsx H2)).mono ?_
      rintro e w' ⟨rfl, x, rfl⟩
      obtain ⟨W9, hW⟩ : ∃ W9, W9 = ov W8 x := ⟨_, rfl⟩
      rw [← hW]
      have K : Below W8.heap.size W8 W9 := by rw [hW]; exact (by repeat (first | exact bR | refine bO ?_ | refine bA ?_ | refine bS ?_ | refine bD ?_ | refine bN ?_))
      clear hW
      replace T := T.trans (K.mono T.size)
      replace Br := box_below Br K
      replace Bo := box_below Bo K
      replace Bx := box_below Bx K
      replace Xxi := Xxi.below K
      replace Xxn := Xxn.below K
      replace Xxl := Xxl.below K
      clear K Sr
      have Sr := Rr.below (TV.trans (T.mono s0))
      obtain ⟨Brc0, Brc1, Brc2, Brc3, Brc4, Brc5, Brc6, Brc7, Brl⟩ := cb8 Br
      obtain ⟨Boc0, Boc1, Boc2, Boc3, Boc4, Boc5, Boc6, Boc7, Bol⟩ := cb8 Bo
      obtain ⟨Bxc0, Bxc1, Bxc2, Bxc3, Bxc4, Bxc5, Bxc6, Bxc7, Bxl⟩ := cb8 Bx
      have Bof0 := frozen_blk (j := 0) Bo.out
      have Bof1 := frozen_blk (j := 1) Bo.out
      have Bof2 := frozen_blk (j := 2) Bo.out
      have Bof3 := frozen_blk (j := 3) Bo.out
      have Bof4 := frozen_blk (j := 4) Bo.out
      have Bof5 := frozen_blk (j := 5) Bo.out
      have Bof6 := frozen_blk (j := 6) Bo.out
      have Bof7 := frozen_blk (j := 7) Bo.out
      go_wp2
      refine bodyPost_ret (v := .tuple #[.agg #[.slice axi r.m.length dxi, .int .i64 r.q, .int .i64 r.bx, .int .i64 r.by_, .int .i64 n1, .int .i64 n2, .slice axn r.ns.length dxn, .slice axl r.ls.length dxl], .bool true]) (by simp [results, Tryz.results10, go_sem, rangeX, noiseX, Boc0, Bof0, Boc1, Bof1, Boc2, Bof2, Boc3, Bof3, Boc4, Bof4, Boc5, Bof5, Boc6, Bof6, Boc7, Bof7, Bol]) rfl ⟨axi, dxi, axn, dxn, axl, dxl, rfl, RBO.weak (B := V.heap.size) ⟨Xxi.thru k8 Bo.out (by decide), Xxn.thru k8 Bo.out (by decide), Xxl.thru k8 Bo.out (by decide), apx⟩ s0, below8 (TV.trans (T.mono s0)) (Nat.le_trans s0 hbb1)⟩
set_option maxRecDepth 100000 in
set_option maxHeartbeats 8000000 in
theorem impl_WithNoise_eq {r : RoomV} {Ar1 Ar2 Ar3 : Option Addr} {cr1 cr2 cr3 : Nat} {p : List H3} {Ap : Option Addr} {cp : Nat} {w : World} {out : RoomV} {ok : Bool} (Rr : RM w r Ar1 Ar2 cr2 Ar3 cr3) (hsr : r.Short) (Rp : R3 44 w Ap cp p) (hsp : p.length ≤ 1048576) (hr : Hid (withR r (noiseX r p) = (out, ok))) :
    Calls Tryz.prog 12 #[.agg #[.slice Ar1 r.m.length cr1, .int .i64 r.q, .int .i64 r.bx, .int .i64 r.by_, .int .i64 r.lo, .int .i64 r.hi, .slice Ar2 r.ns.length cr2, .slice Ar3 r.ls.length cr3], .agg #[.slice Ap p.length cp]] w (RoomPost w out ok) := by
  have hk := hr.out
  clear hr
  unfold withR at hk
  obtain ⟨t1, h1⟩ : ∃ t, roomOk r = t := ⟨_, rfl⟩
  obtain ⟨t2, h2⟩ : ∃ t, roomOk (noiseX r p) = t := ⟨_, rfl⟩
  rw [h1, h2] at hk
  have H1 := Lib.hid h1
  have H2 := Lib.hid h2
  have hsx : ((noiseX r p)).Short := noiseX_short hsr hsp
  cases t1 with
  | false =>
    rw [if_neg (by simp)] at hk
    injection hk with e1 e2
    subst e1 e2
    clear h1 h2
    go_enter Tryz.func12, Tryz.ntmps12
    go_wp2_with fail
    obtain ⟨V, hV⟩ : ∃ V, V = w := ⟨_, rfl⟩
    have TV : Below w.heap.size w V := by rw [hV]; exact Below.refl _ _
    have s0 : w.heap.size ≤ V.heap.size := TV.size
    obtain ⟨W0, hW⟩ : ∃ W0, W0 = (((w.alloc (.cells #[.slice Ar1 r.m.length cr1, .int .i64 r.q, .int .i64 r.bx, .int .i64 r.by_, .int .i64 r.lo, .int .i64 r.hi, .slice Ar2 r.ns.length cr2, .slice Ar3 r.ls.length cr3] 28)).alloc (.cells #[.slice Ap p.length cp] 26)).alloc (.cells #[.slice none 0 0, .int .i64 0, .int .i64 0, .int .i64 0, .int .i64 0, .int .i64 0, .slice none 0 0, .slice none 0 0] 28)) := ⟨_, rfl⟩
    rw [← hW]
    have T : Below V.heap.size V W0 := by rw [hW, hV]; exact (by repeat (first | exact bR | refine bO ?_ | refine bA ?_ | refine bS ?_ | refine bD ?_ | refine bN ?_))
    have X0 : W0.heap[w.heap.size]? = some (.cells #[.slice Ar1 r.m.length cr1, .int .i64 r.q, .int .i64 r.bx, .int .i64 r.by_, .int .i64 r.lo, .int .i64 r.hi, .slice Ar2 r.ns.length cr2, .slice Ar3 r.ls.length cr3] 28 (0, 0)) := by rw [hW]; exact ((heap_old_at (by first | (simp; done) | (simp <;> omega))).trans ((heap_old_at (by first | (simp; done) | (simp <;> omega))).trans (heap_new_at (by first | (simp; done) | (simp <;> omega)) rfl)))
    have hbb0 : V.heap.size ≤ w.heap.size := by rw [hV]; omega
    have X1 : W0.heap[w.heap.size + 1]? = some (.cells #[.slice Ap p.length cp] 26 (0, 0)) := by rw [hW]; exact ((heap_old_at (by first | (simp; done) | (simp <;> omega))).trans (heap_new_at (by first | (simp; done) | (simp <;> omega)) rfl))
    have hbb1 : V.heap.size ≤ w.heap.size + 1 := by rw [hV]; omega
    have X2 : W0.heap[w.heap.size + 1 + 1]? = some (.cells #[.slice none 0 0, .int .i64 0, .int .i64 0, .int .i64 0, .int .i64 0, .int .i64 0, .slice none 0 0, .slice none 0 0] 28 (0, 0)) := by rw [hW]; exact (heap_new_at (by first | (simp; done) | (simp <;> omega)) rfl)
    have hbb2 : V.heap.size ≤ w.heap.size + 1 + 1 := by rw [hV]; omega
    have hne01 : w.heap.size ≠ w.heap.size + 1 := by omega
    have hne02 : w.heap.size ≠ w.heap.size + 1 + 1 := by omega
    have hne10 : w.heap.size + 1 ≠ w.heap.size := by omega
    have hne12 : w.heap.size + 1 ≠ w.heap.size + 1 + 1 := by omega
    have hne20 : w.heap.size + 1 + 1 ≠ w.heap.size := by omega
    have hne21 : w.heap.size + 1 + 1 ≠ w.heap.size + 1 := by omega
    clear hW hV
    generalize w.heap.size + 1 + 1 = ba2 at X2 hbb2 hne02 hne12 hne20 hne21 ⊢
    generalize w.heap.size + 1 = ba1 at X1 hbb1 hne01 hne10 hne12 hne21 ⊢
    obtain ⟨ba0, hba0⟩ : ∃ b, w.heap.size = b := ⟨_, rfl⟩
    rw [hba0] at X0 hbb0 hne01 hne02 hne10 hne20
    try rw [hba0]
    have Br := Lib.hid X0
    clear X0
    have Bp := Lib.hid X1
    clear X1
    have Bo := Lib.hid X2
    clear X2
    have Sr := Rr.below (TV.trans (T.mono s0))
    have Sp := Rp.below (TV.trans (T.mono s0))
    refine (calls_ov (impl_RoomOk_eq (Sr.below (by repeat (first | exact bR | refine bO ?_ | refine bA ?_ | refine bS ?_ | refine bD ?_ | refine bN ?_))) hsr H1)).mono ?_
    rintro e w' ⟨rfl, x, rfl⟩
    obtain ⟨W1, hW⟩ : ∃ W1, W1 = ov W0 x := ⟨_, rfl⟩
    rw [← hW]
    have K : Below W0.heap.size W0 W1 := by rw [hW]; exact (by repeat (first | exact bR | refine bO ?_ | refine bA ?_ | refine bS ?_ | refine bD ?_ | refine bN ?_))
    clear hW
    replace T := T.trans (K.mono T.size)
    replace Br := box_below Br K
    replace Bp := box_below Bp K
    replace Bo := box_below Bo K
    clear K Sr Sp
    have Sr := Rr.below (TV.trans (T.mono s0))
    have Sp := Rp.below (TV.trans (T.mono s0))
    obtain ⟨Brc0, Brc1, Brc2, Brc3, Brc4, Brc5, Brc6, Brc7, Brl⟩ := cb8 Br
    obtain ⟨Bpc0, Bpl⟩ := cb1 Bp
    obtain ⟨Boc0, Boc1, Boc2, Boc3, Boc4, Boc5, Boc6, Boc7, Bol⟩ := cb8 Bo
    have Bof0 := frozen_blk (j := 0) Bo.out
    have Bof1 := frozen_blk (j := 1) Bo.out
    have Bof2 := frozen_blk (j := 2) Bo.out
    have Bof3 := frozen_blk (j := 3) Bo.out
    have Bof4 := frozen_blk (j := 4) Bo.out
    have Bof5 := frozen_blk (j := 5) Bo.out
    have Bof6 := frozen_blk (j := 6) Bo.out
    have Bof7 := frozen_blk (j := 7) Bo.out
    go_wp2
    refine bodyPost_ret (v := .tuple #[.agg #[.slice none 0 0, .int .i64 0, .int .i64 0, .int .i64 0, .int .i64 0, .int .i64 0, .slice none 0 0, .slice none 0 0], .bool false]) (by simp [results, Tryz.results12, go_sem, Boc0, Bof0, Boc1, Bof1, Boc2, Bof2, Boc3, Bof3, Boc4, Bof4, Boc5, Bof5, Boc6, Bof6, Boc7, Bof7, Bol]) rfl (zero_post (below8 (TV.trans (T.mono s0)) (Nat.le_trans s0 hbb2)))
  | true =>
    have h4 := roomOk_m h1
    cases t2 with
    | false =>
      rw [if_neg (by simp)] at hk
      injection hk with e1 e2
      subst e1 e2
      clear h1 h2
      go_enter Tryz.func12, Tryz.ntmps12
      go_wp2_with fail
      obtain ⟨V, hV⟩ : ∃ V, V = w := ⟨_, rfl⟩
      have TV : Below w.heap.size w V := by rw [hV]; exact Below.refl _ _
      have s0 : w.heap.size ≤ V.heap.size := TV.size
      obtain ⟨W0, hW⟩ : ∃ W0, W0 = (((w.alloc (.cells #[.slice Ar1 r.m.length cr1, .int .i64 r.q, .int .i64 r.bx, .int .i64 r.by_, .int .i64 r.lo, .int .i64 r.hi, .slice Ar2 r.ns.length cr2, .slice Ar3 r.ls.length cr3] 28)).alloc (.cells #[.slice Ap p.length cp] 26)).alloc (.cells #[.slice none 0 0, .int .i64 0, .int .i64 0, .int .i64 0, .int .i64 0, .int .i64 0, .slice none 0 0, .slice none 0 0] 28)) := ⟨_, rfl⟩
      rw [← hW]
      have T : Below V.heap.size V W0 := by rw [hW, hV]; exact (by repeat (first | exact bR | refine bO ?_ | refine bA ?_ | refine bS ?_ | refine bD ?_ | refine bN ?_))
      have X0 : W0.heap[w.heap.size]? = some (.cells #[.slice Ar1 r.m.length cr1, .int .i64 r.q, .int .i64 r.bx, .int .i64 r.by_, .int .i64 r.lo, .int .i64 r.hi, .slice Ar2 r.ns.length cr2, .slice Ar3 r.ls.length cr3] 28 (0, 0)) := by rw [hW]; exact ((heap_old_at (by first | (simp; done) | (simp <;> omega))).trans ((heap_old_at (by first | (simp; done) | (simp <;> omega))).trans (heap_new_at (by first | (simp; done) | (simp <;> omega)) rfl)))
      have hbb0 : V.heap.size ≤ w.heap.size := by rw [hV]; omega
      have X1 : W0.heap[w.heap.size + 1]? = some (.cells #[.slice Ap p.length cp] 26 (0, 0)) := by rw [hW]; exact ((heap_old_at (by first | (simp; done) | (simp <;> omega))).trans (heap_new_at (by first | (simp; done) | (simp <;> omega)) rfl))
      have hbb1 : V.heap.size ≤ w.heap.size + 1 := by rw [hV]; omega
      have X2 : W0.heap[w.heap.size + 1 + 1]? = some (.cells #[.slice none 0 0, .int .i64 0, .int .i64 0, .int .i64 0, .int .i64 0, .int .i64 0, .slice none 0 0, .slice none 0 0] 28 (0, 0)) := by rw [hW]; exact (heap_new_at (by first | (simp; done) | (simp <;> omega)) rfl)
      have hbb2 : V.heap.size ≤ w.heap.size + 1 + 1 := by rw [hV]; omega
      have hne01 : w.heap.size ≠ w.heap.size + 1 := by omega
      have hne02 : w.heap.size ≠ w.heap.size + 1 + 1 := by omega
      have hne10 : w.heap.size + 1 ≠ w.heap.size := by omega
      have hne12 : w.heap.size + 1 ≠ w.heap.size + 1 + 1 := by omega
      have hne20 : w.heap.size + 1 + 1 ≠ w.heap.size := by omega
      have hne21 : w.heap.size + 1 + 1 ≠ w.heap.size + 1 := by omega
      clear hW hV
      generalize w.heap.size + 1 + 1 = ba2 at X2 hbb2 hne02 hne12 hne20 hne21 ⊢
      generalize w.heap.size + 1 = ba1 at X1 hbb1 hne01 hne10 hne12 hne21 ⊢
      obtain ⟨ba0, hba0⟩ : ∃ b, w.heap.size = b := ⟨_, rfl⟩
      rw [hba0] at X0 hbb0 hne01 hne02 hne10 hne20
      try rw [hba0]
      have Br := Lib.hid X0
      clear X0
      have Bp := Lib.hid X1
      clear X1
      have Bo := Lib.hid X2
      clear X2
      have Sr := Rr.below (TV.trans (T.mono s0))
      have Sp := Rp.below (TV.trans (T.mono s0))
      refine (calls_ov (impl_RoomOk_eq (Sr.below (by repeat (first | exact bR | refine bO ?_ | refine bA ?_ | refine bS ?_ | refine bD ?_ | refine bN ?_))) hsr H1)).mono ?_
      rintro e w' ⟨rfl, x, rfl⟩
      obtain ⟨W2, hW⟩ : ∃ W2, W2 = ov W0 x := ⟨_, rfl⟩
      rw [← hW]
      have K : Below W0.heap.size W0 W2 := by rw [hW]; exact (by repeat (first | exact bR | refine bO ?_ | refine bA ?_ | refine bS ?_ | refine bD ?_ | refine bN ?_))
      clear hW
      replace T := T.trans (K.mono T.size)
      replace Br := box_below Br K
      replace Bp := box_below Bp K
      replace Bo := box_below Bo K
      clear K Sr Sp
      have Sr := Rr.below (TV.trans (T.mono s0))
      have Sp := Rp.below (TV.trans (T.mono s0))
      obtain ⟨Brc0, Brc1, Brc2, Brc3, Brc4, Brc5, Brc6, Brc7, Brl⟩ := cb8 Br
      obtain ⟨Bpc0, Bpl⟩ := cb1 Bp
      obtain ⟨Boc0, Boc1, Boc2, Boc3, Boc4, Boc5, Boc6, Boc7, Bol⟩ := cb8 Bo
      go_wp2_with fail
      clear Brc0 Brc1 Brc2 Brc3 Brc4 Brc5 Brc6 Brc7 Bpc0 Boc0 Boc1 Boc2 Boc3 Boc4 Boc5 Boc6 Boc7 Brl Bpl Bol
      refine (copyRoom_any (Sr.below (by repeat (first | exact bR | refine bO ?_ | refine bA ?_ | refine bS ?_ | refine bD ?_ | refine bN ?_))) hsr h4).mono ?_
      rintro e W3 ⟨axi, dxi, axn, dxn, axl, dxl, rfl, ⟨Xxi, Xxn, Xxl, apx⟩, hb⟩
      have K : Below W2.heap.size W2 W3 := Below.trans (by repeat (first | exact bR | refine bO ?_ | refine bA ?_ | refine bS ?_ | refine bD ?_ | refine bN ?_)) (hb.mono (by first | exact Nat.le_refl _ | simp [ov_size]))
      clear hb
      replace Xxi := Xxi.weak (B' := V.heap.size) (by have := T.size; (try simp [ov_size]); omega)
      replace Xxn := Xxn.weak (B' := V.heap.size) (by have := T.size; (try simp [ov_size]); omega)
      replace Xxl := Xxl.weak (B' := V.heap.size) (by have := T.size; (try simp [ov_size]); omega)
      replace T := T.trans (K.mono T.size)
      replace Br := box_below Br K
      replace Bp := box_below Bp K
      replace Bo := box_below Bo K
      clear K Sr Sp
      have Sr := Rr.below (TV.trans (T.mono s0))
      have Sp := Rp.below (TV.trans (T.mono s0))
      obtain ⟨Brc0, Brc1, Brc2, Brc3, Brc4, Brc5, Brc6, Brc7, Brl⟩ := cb8 Br
      obtain ⟨Bpc0, Bpl⟩ := cb1 Bp
      obtain ⟨Boc0, Boc1, Boc2, Boc3, Boc4, Boc5, Boc6, Boc7, Bol⟩ := cb8 Bo
      go_wp2_with fail
      clear Brc0 Brc1 Brc2 Brc3 Brc4 Brc5 Brc6 Brc7 Bpc0 Boc0 Boc1 Boc2 Boc3 Boc4 Boc5 Boc6 Boc7 Brl Bpl Bol
      obtain ⟨bx, hbx⟩ : ∃ b, b = W3.heap.size := ⟨_, rfl⟩
      rw [← hbx]
      have hne0x : ba0 ≠ bx := by have := (Array.getElem?_eq_some_iff.1 Br.out).1; omega
      have hne1x : ba1 ≠ bx := by have := (Array.getElem?_eq_some_iff.1 Bp.out).1; omega
      have hne2x : ba2 ≠ bx := by have := (Array.getElem?_eq_some_iff.1 Bo.out).1; omega
      have hbbx : V.heap.size ≤ bx := by have := T.size; omega
      obtain ⟨W4, hW⟩ : ∃ W, W = W3.alloc (.cells #[.slice axi r.m.length dxi, .int .i64 r.q, .int .i64 r.bx, .int .i64 r.by_, .int .i64 r.lo, .int .i64 r.hi, .slice axn r.ns.length dxn, .slice axl r.ls.length dxl] 28) := ⟨_, rfl⟩
      rw [← hW]
      have K : Below W3.heap.size W3 W4 := by rw [hW]; exact (by repeat (first | exact bR | refine bO ?_ | refine bA ?_ | refine bS ?_ | refine bD ?_ | refine bN ?_))
      have Bx := Lib.hid (show W4.heap[bx]? = some (.cells #[.slice axi r.m.length dxi, .int .i64 r.q, .int .i64 r.bx, .int .i64 r.by_, .int .i64 r.lo, .int .i64 r.hi, .slice axn r.ns.length dxn, .slice axl r.ls.length dxl] 28 (0, 0)) by rw [hW, hbx]; exact heap_alloc_new _ _)
      clear hW hbx
      replace T := T.trans (K.mono T.size)
      replace Br := box_below Br K
      replace Bp := box_below Bp K
      replace Bo := box_below Bo K
      replace Xxi := Xxi.below K
      replace Xxn := Xxn.below K
      replace Xxl := Xxl.below K
      clear K Sr Sp
      have Sr := Rr.below (TV.trans (T.mono s0))
      have Sp := Rp.below (TV.trans (T.mono s0))
      refine (copyRegion_long (Sp.below (by repeat (first | exact bR | refine bO ?_ | refine bA ?_ | refine bS ?_ | refine bD ?_ | refine bN ?_))) hsp).mono ?_
      rintro e W5 ⟨am, dm, rfl, Xm, hb⟩
      have apXxnXm := apart_new Xxn Xm (by first | exact Nat.le_refl _ | (simp [ov_size]) | (simp [ov_size]; omega))
      have apXxlXm := apart_new Xxl Xm (by first | exact Nat.le_refl _ | (simp [ov_size]) | (simp [ov_size]; omega))
      have K : Below W4.heap.size W4 W5 := Below.trans (by repeat (first | exact bR | refine bO ?_ | refine bA ?_ | refine bS ?_ | refine bD ?_ | refine bN ?_)) (hb.mono (by first | exact Nat.le_refl _ | simp [ov_size]))
      clear hb
      replace Xm := Xm.weak (B' := V.heap.size) (by have := T.size; (try simp [ov_size]); omega)
      replace T := T.trans (K.mono T.size)
      replace Br := box_below Br K
      replace Bp := box_below Bp K
      replace Bo := box_below Bo K
      replace Bx := box_below Bx K
      replace Xxi := Xxi.below K
      replace Xxn := Xxn.below K
      replace Xxl := Xxl.below K
      clear K Sr Sp
      have Sr := Rr.below (TV.trans (T.mono s0))
      have Sp := Rp.below (TV.trans (T.mono s0))
      obtain ⟨Brc0, Brc1, Brc2, Brc3, Brc4, Brc5, Brc6, Brc7, Brl⟩ := cb8 Br
      obtain ⟨Bpc0, Bpl⟩ := cb1 Bp
      obtain ⟨Boc0, Boc1, Boc2, Boc3, Boc4, Boc5, Boc6, Boc7, Bol⟩ := cb8 Bo
      obtain ⟨Bxc0, Bxc1, Bxc2, Bxc3, Bxc4, Bxc5, Bxc6, Bxc7, Bxl⟩ := cb8 Bx
      have Bxf0 := frozen_blk (j := 0) Bx.out
      have Bxf1 := frozen_blk (j := 1) Bx.out
      have Bxf2 := frozen_blk (j := 2) Bx.out
      have Bxf3 := frozen_blk (j := 3) Bx.out
      have Bxf4 := frozen_blk (j := 4) Bx.out
      have Bxf5 := frozen_blk (j := 5) Bx.out
      have Bxf6 := frozen_blk (j := 6) Bx.out
      have Bxf7 := frozen_blk (j := 7) Bx.out
      go_wp2_with fail
      clear Brc0 Brc1 Brc2 Brc3 Brc4 Brc5 Brc6 Brc7 Bpc0 Boc0 Boc1 Boc2 Boc3 Boc4 Boc5 Boc6 Boc7 Bxc0 Bxc1 Bxc2 Bxc3 Bxc4 Bxc5 Bxc6 Bxc7 Brl Bpl Bol Bxl
      clear Bxf0 Bxf1 Bxf2 Bxf3 Bxf4 Bxf5 Bxf6 Bxf7
      obtain ⟨W6, hW⟩ : ∃ W, W = (W5.setCell ⟨bx, 6, none⟩ (.slice am p.length dm)) := ⟨_, rfl⟩
      rw [← hW]
      have K : W5.grownBy W6 (some bx) := by rw [hW]; exact (grownBy_set (grownBy_of_below (Below.refl _ _)))
      have NBx := Lib.hid (show W6.heap[bx]? = some (.cells #[.slice axi r.m.length dxi, .int .i64 r.q, .int .i64 r.bx, .int .i64 r.by_, .int .i64 r.lo, .int .i64 r.hi, .slice am p.length dm, .slice axl r.ls.length dxl] 28 (0, 0)) by rw [hW]; exact (set8_6 Bx.out))
      clear hW
      replace Xxi := Xxi.thru K Bx.out (by decide)
      replace Xxn := Xxn.thru K Bx.out (by decide)
      replace Xxl := Xxl.thru K Bx.out (by decide)
      replace Xm := Xm.thru K Bx.out (by decide)
      replace Br := box_thru Br K hne0x
      replace Bp := box_thru Bp K hne1x
      replace Bo := box_thru Bo K hne2x
      replace T := grown_below (v := .slice (some ⟨bx, 0, none⟩) 0 0) T K (fun k hk => by have hk : some bx = some k := hk; injection hk with hk; omega) (Nat.le_refl _)
      replace Bx := NBx
      clear NBx K Sr Sp
      have Sr := Rr.below (TV.trans (T.mono s0))
      have Sp := Rp.below (TV.trans (T.mono s0))
      refine (calls_ov (ifRoom_false (r := (noiseX r p)) (RM.below ⟨Xxi.ri, Xm.r3, Xxl.r3⟩ (by repeat (first | exact bR | refine bO ?_ | refine bA ?_ | refine bS ?_ | refine bD ?_ | refine bN ?_))) hsx H2)).mono ?_
      rintro e w' ⟨rfl, x, rfl⟩
      obtain ⟨W7, hW⟩ : ∃ W7, W7 = ov W6 x := ⟨_, rfl⟩
      rw [← hW]
      have K : Below W6.heap.size W6 W7 := by rw [hW]; exact (by repeat (first | exact bR | refine bO ?_ | refine bA ?_ | refine bS ?_ | refine bD ?_ | refine bN ?_))
      clear hW
      replace T := T.trans (K.mono T.size)
      replace Br := box_below Br K
      replace Bp := box_below Bp K
      replace Bo := box_below Bo K
      replace Bx := box_below Bx K
      replace Xxi := Xxi.below K
      replace Xxn := Xxn.below K
      replace Xxl := Xxl.below K
      replace Xm := Xm.below K
      clear K Sr Sp
      have Sr := Rr.below (TV.trans (T.mono s0))
      have Sp := Rp.below (TV.trans (T.mono s0))
      obtain ⟨Brc0, Brc1, Brc2, Brc3, Brc4, Brc5, Brc6, Brc7, Brl⟩ := cb8 Br
      obtain ⟨Bpc0, Bpl⟩ := cb1 Bp
      obtain ⟨Boc0, Boc1, Boc2, Boc3, Boc4, Boc5, Boc6, Boc7, Bol⟩ := cb8 Bo
      obtain ⟨Bxc0, Bxc1, Bxc2, Bxc3, Bxc4, Bxc5, Bxc6, Bxc7, Bxl⟩ := cb8 Bx
      have Bof0 := frozen_blk (j := 0) Bo.out
      have Bof1 := frozen_blk (j := 1) Bo.out
      have Bof2 := frozen_blk (j := 2) Bo.out
      have Bof3 := frozen_blk (j := 3) Bo.out
      have Bof4 := frozen_blk (j := 4) Bo.out
      have Bof5 := frozen_blk (j := 5) Bo.out
      have Bof6 := frozen_blk (j := 6) Bo.out
      have Bof7 := frozen_blk (j := 7) Bo.out
      go_wp2
      refine bodyPost_ret (v := .tuple #[.agg #[.slice none 0 0, .int .i64 0, .int .i64 0, .int .i64 0, .int .i64 0, .int .i64 0, .slice none 0 0, .slice none 0 0], .bool false]) (by simp [results, Tryz.results12, go_sem, Boc0, Bof0, Boc1, Bof1, Boc2, Bof2, Boc3, Bof3, Boc4, Bof4, Boc5, Bof5, Boc6, Bof6, Boc7, Bof7, Bol]) rfl (zero_post (below8 (TV.trans (T.mono s0)) (Nat.le_trans s0 hbb2)))
    | true =>
      rw [if_pos ⟨rfl, rfl⟩] at hk
      injection hk with e1 e2
      subst e1 e2
      clear h1 h2
      go_enter Tryz.func12, Tryz.ntmps12
      go_wp2_with fail
      obtain ⟨V, hV⟩ : ∃ V, V = w := ⟨_, rfl⟩
      have TV : Below w.heap.size w V := by rw [hV]; exact Below.refl _ _
      have s0 : w.heap.size ≤ V.heap.size := TV.size
      obtain ⟨W0, hW⟩ : ∃ W0, W0 = (((w.alloc (.cells #[.slice Ar1 r.m.length cr1, .int .i64 r.q, .int .i64 r.bx, .int .i64 r.by_, .int .i64 r.lo, .int .i64 r.hi, .slice Ar2 r.ns.length cr2, .slice Ar3 r.ls.length cr3] 28)).alloc (.cells #[.slice Ap p.length cp] 26)).alloc (.cells #[.slice none 0 0, .int .i64 0, .int .i64 0, .int .i64 0, .int .i64 0, .int .i64 0, .slice none 0 0, .slice none 0 0] 28)) := ⟨_, rfl⟩
      rw [← hW]
      have T : Below V.heap.size V W0 := by rw [hW, hV]; exact (by repeat (first | exact bR | refine bO ?_ | refine bA ?_ | refine bS ?_ | refine bD ?_ | refine bN ?_))
      have X0 : W0.heap[w.heap.size]? = some (.cells #[.slice Ar1 r.m.length cr1, .int .i64 r.q, .int .i64 r.bx, .int .i64 r.by_, .int .i64 r.lo, .int .i64 r.hi, .slice Ar2 r.ns.length cr2, .slice Ar3 r.ls.length cr3] 28 (0, 0)) := by rw [hW]; exact ((heap_old_at (by first | (simp; done) | (simp <;> omega))).trans ((heap_old_at (by first | (simp; done) | (simp <;> omega))).trans (heap_new_at (by first | (simp; done) | (simp <;> omega)) rfl)))
      have hbb0 : V.heap.size ≤ w.heap.size := by rw [hV]; omega
      have X1 : W0.heap[w.heap.size + 1]? = some (.cells #[.slice Ap p.length cp] 26 (0, 0)) := by rw [hW]; exact ((heap_old_at (by first | (simp; done) | (simp <;> omega))).trans (heap_new_at (by first | (simp; done) | (simp <;> omega)) rfl))
      have hbb1 : V.heap.size ≤ w.heap.size + 1 := by rw [hV]; omega
      have X2 : W0.heap[w.heap.size + 1 + 1]? = some (.cells #[.slice none 0 0, .int .i64 0, .int .i64 0, .int .i64 0, .int .i64 0, .int .i64 0, .slice none 0 0, .slice none 0 0] 28 (0, 0)) := by rw [hW]; exact (heap_new_at (by first | (simp; done) | (simp <;> omega)) rfl)
      have hbb2 : V.heap.size ≤ w.heap.size + 1 + 1 := by rw [hV]; omega
      have hne01 : w.heap.size ≠ w.heap.size + 1 := by omega
      have hne02 : w.heap.size ≠ w.heap.size + 1 + 1 := by omega
      have hne10 : w.heap.size + 1 ≠ w.heap.size := by omega
      have hne12 : w.heap.size + 1 ≠ w.heap.size + 1 + 1 := by omega
      have hne20 : w.heap.size + 1 + 1 ≠ w.heap.size := by omega
      have hne21 : w.heap.size + 1 + 1 ≠ w.heap.size + 1 := by omega
      clear hW hV
      generalize w.heap.size + 1 + 1 = ba2 at X2 hbb2 hne02 hne12 hne20 hne21 ⊢
      generalize w.heap.size + 1 = ba1 at X1 hbb1 hne01 hne10 hne12 hne21 ⊢
      obtain ⟨ba0, hba0⟩ : ∃ b, w.heap.size = b := ⟨_, rfl⟩
      rw [hba0] at X0 hbb0 hne01 hne02 hne10 hne20
      try rw [hba0]
      have Br := Lib.hid X0
      clear X0
      have Bp := Lib.hid X1
      clear X1
      have Bo := Lib.hid X2
      clear X2
      have Sr := Rr.below (TV.trans (T.mono s0))
      have Sp := Rp.below (TV.trans (T.mono s0))
      refine (calls_ov (impl_RoomOk_eq (Sr.below (by repeat (first | exact bR | refine bO ?_ | refine bA ?_ | refine bS ?_ | refine bD ?_ | refine bN ?_))) hsr H1)).mono ?_
      rintro e w' ⟨rfl, x, rfl⟩
      obtain ⟨W8, hW⟩ : ∃ W8, W8 = ov W0 x := ⟨_, rfl⟩
      rw [← hW]
      have K : Below W0.heap.size W0 W8 := by rw [hW]; exact (by repeat (first | exact bR | refine bO ?_ | refine bA ?_ | refine bS ?_ | refine bD ?_ | refine bN ?_))
      clear hW
      replace T := T.trans (K.mono T.size)
      replace Br := box_below Br K
      replace Bp := box_below Bp K
      replace Bo := box_below Bo K
      clear K Sr Sp
      have Sr := Rr.below (TV.trans (T.mono s0))
      have Sp := Rp.below (TV.trans (T.mono s0))
      obtain ⟨Brc0, Brc1, Brc2, Brc3, Brc4, Brc5, Brc6, Brc7, Brl⟩ := cb8 Br
      obtain ⟨Bpc0, Bpl⟩ := cb1 Bp
      obtain ⟨Boc0, Boc1, Boc2, Boc3, Boc4, Boc5, Boc6, Boc7, Bol⟩ := cb8 Bo
      go_wp2_with fail
      clear Brc0 Brc1 Brc2 Brc3 Brc4 Brc5 Brc6 Brc7 Bpc0 Boc0 Boc1 Boc2 Boc3 Boc4 Boc5 Boc6 Boc7 Brl Bpl Bol
      refine (copyRoom_any (Sr.below (by repeat (first | exact bR | refine bO ?_ | refine bA ?_ | refine bS ?_ | refine bD ?_ | refine bN ?_))) hsr h4).mono ?_
      rintro e W9 ⟨axi, dxi, axn, dxn, axl, dxl, rfl, ⟨Xxi, Xxn, Xxl, apx⟩, hb⟩
      have K : Below W8.heap.size W8 W9 := Below.trans (by repeat (first | exact bR | refine bO ?_ | refine bA ?_ | refine bS ?_ | refine bD ?_ | refine bN ?_)) (hb.mono (by first | exact Nat.le_refl _ | simp [ov_size]))
      clear hb
      replace Xxi := Xxi.weak (B' := V.heap.size) (by have := T.size; (try simp [ov_size]); omega)
      replace Xxn := Xxn.weak (B' := V.heap.size) (by have := T.size; (try simp [ov_size]); omega)
      replace Xxl := Xxl.weak (B' := V.heap.size) (by have := T.size; (try simp [ov_size]); omega)
      replace T := T.trans (K.mono T.size)
      replace Br := box_below Br K
      replace Bp := box_below Bp K
      replace Bo := box_below Bo K
      clear K Sr Sp
      have Sr := Rr.below (TV.trans (T.mono s0))
      have Sp := Rp.below (TV.trans (T.mono s0))
      obtain ⟨Brc0, Brc1, Brc2, Brc3, Brc4, Brc5, Brc6, Brc7, Brl⟩ := cb8 Br
      obtain ⟨Bpc0, Bpl⟩ := cb1 Bp
      obtain ⟨Boc0, Boc1, Boc2, Boc3, Boc4, Boc5, Boc6, Boc7, Bol⟩ := cb8 Bo
      go_wp2_with fail
      clear Brc0 Brc1 Brc2 Brc3 Brc4 Brc5 Brc6 Brc7 Bpc0 Boc0 Boc1 Boc2 Boc3 Boc4 Boc5 Boc6 Boc7 Brl Bpl Bol
      obtain ⟨bx, hbx⟩ : ∃ b, b = W9.heap.size := ⟨_, rfl⟩
      rw [← hbx]
      have hne0x : ba0 ≠ bx := by have := (Array.getElem?_eq_some_iff.1 Br.out).1; omega
      have hne1x : ba1 ≠ bx := by have := (Array.getElem?_eq_some_iff.1 Bp.out).1; omega
      have hne2x : ba2 ≠ bx := by have := (Array.getElem?_eq_some_iff.1 Bo.out).1; omega
      have hbbx : V.heap.size ≤ bx := by have := T.size; omega
      obtain ⟨W10, hW⟩ : ∃ W, W = W9.alloc (.cells #[.slice axi r.m.length dxi, .int .i64 r.q, .int .i64 r.bx, .int .i64 r.by_, .int .i64 r.lo, .int .i64 r.hi, .slice axn r.ns.length dxn, .slice axl r.ls.length dxl] 28) := ⟨_, rfl⟩
      rw [← hW]
      have K : Below W9.heap.size W9 W10 := by rw [hW]; exact (by repeat (first | exact bR | refine bO ?_ | refine bA ?_ | refine bS ?_ | refine bD ?_ | refine bN ?_))
      have Bx := Lib.hid (show W10.heap[bx]? = some (.cells #[.slice axi r.m.length dxi, .int .i64 r.q, .int .i64 r.bx, .int .i64 r.by_, .int .i64 r.lo, .int .i64 r.hi, .slice axn r.ns.length dxn, .slice axl r.ls.length dxl] 28 (0, 0)) by rw [hW, hbx]; exact heap_alloc_new _ _)
      clear hW hbx
      replace T := T.trans (K.mono T.size)
      replace Br := box_below Br K
      replace Bp := box_below Bp K
      replace Bo := box_below Bo K
      replace Xxi := Xxi.below K
      replace Xxn := Xxn.below K
      replace Xxl := Xxl.below K
      clear K Sr Sp
      have Sr := Rr.below (TV.trans (T.mono s0))
      have Sp := Rp.below (TV.trans (T.mono s0))
      refine (copyRegion_long (Sp.below (by repeat (first | exact bR | refine bO ?_ | refine bA ?_ | refine bS ?_ | refine bD ?_ | refine bN ?_))) hsp).mono ?_
      rintro e W11 ⟨am, dm, rfl, Xm, hb⟩
      have apXxnXm := apart_new Xxn Xm (by first | exact Nat.le_refl _ | (simp [ov_size]) | (simp [ov_size]; omega))
      have apXxlXm := apart_new Xxl Xm (by first | exact Nat.le_refl _ | (simp [ov_size]) | (simp [ov_size]; omega))
      have K : Below W10.heap.size W10 W11 := Below.trans (by repeat (first | exact bR | refine bO ?_ | refine bA ?_ | refine bS ?_ | refine bD ?_ | refine bN ?_)) (hb.mono (by first | exact Nat.le_refl _ | simp [ov_size]))
      clear hb
      replace Xm := Xm.weak (B' := V.heap.size) (by have := T.size; (try simp [ov_size]); omega)
      replace T := T.trans (K.mono T.size)
      replace Br := box_below Br K
      replace Bp := box_below Bp K
      replace Bo := box_below Bo K
      replace Bx := box_below Bx K
      replace Xxi := Xxi.below K
      replace Xxn := Xxn.below K
      replace Xxl := Xxl.below K
      clear K Sr Sp
      have Sr := Rr.below (TV.trans (T.mono s0))
      have Sp := Rp.below (TV.trans (T.mono s0))
      obtain ⟨Brc0, Brc1, Brc2, Brc3, Brc4, Brc5, Brc6, Brc7, Brl⟩ := cb8 Br
      obtain ⟨Bpc0, Bpl⟩ := cb1 Bp
      obtain ⟨Boc0, Boc1, Boc2, Boc3, Boc4, Boc5, Boc6, Boc7, Bol⟩ := cb8 Bo
      obtain ⟨Bxc0, Bxc1, Bxc2, Bxc3, Bxc4, Bxc5, Bxc6, Bxc7, Bxl⟩ := cb8 Bx
      have Bxf0 := frozen_blk (j := 0) Bx.out
      have Bxf1 := frozen_blk (j := 1) Bx.out
      have Bxf2 := frozen_blk (j := 2) Bx.out
      have Bxf3 := frozen_blk (j := 3) Bx.out
      have Bxf4 := frozen_blk (j := 4) Bx.out
      have Bxf5 := frozen_blk (j := 5) Bx.out
      have Bxf6 := frozen_blk (j := 6) Bx.out
      have Bxf7 := frozen_blk (j := 7) Bx.out
      go_wp2_with fail
      clear Brc0 Brc1 Brc2 Brc3 Brc4 Brc5 Brc6 Brc7 Bpc0 Boc0 Boc1 Boc2 Boc3 Boc4 Boc5 Boc6 Boc7 Bxc0 Bxc1 Bxc2 Bxc3 Bxc4 Bxc5 Bxc6 Bxc7 Brl Bpl Bol Bxl
      clear Bxf0 Bxf1 Bxf2 Bxf3 Bxf4 Bxf5 Bxf6 Bxf7
      obtain ⟨W12, hW⟩ : ∃ W, W = (W11.setCell ⟨bx, 6, none⟩ (.slice am p.length dm)) := ⟨_, rfl⟩
      rw [← hW]
      have K : W11.grownBy W12 (some bx) := by rw [hW]; exact (grownBy_set (grownBy_of_below (Below.refl _ _)))
      have NBx := Lib.hid (show W12.heap[bx]? = some (.cells #[.slice axi r.m.length dxi, .int .i64 r.q, .int .i64 r.bx, .int .i64 r.by_, .int .i64 r.lo, .int .i64 r.hi, .slice am p.length dm, .slice axl r.ls.length dxl] 28 (0, 0)) by rw [hW]; exact (set8_6 Bx.out))
      clear hW
      replace Xxi := Xxi.thru K Bx.out (by decide)
      replace Xxn := Xxn.thru K Bx.out (by decide)
      replace Xxl := Xxl.thru K Bx.out (by decide)
      replace Xm := Xm.thru K Bx.out (by decide)
      replace Br := box_thru Br K hne0x
      replace Bp := box_thru Bp K hne1x
      replace Bo := box_thru Bo K hne2x
      replace T := grown_below (v := .slice (some ⟨bx, 0, none⟩) 0 0) T K (fun k hk => by have hk : some bx = some k := hk; injection hk with hk; omega) (Nat.le_refl _)
      replace Bx := NBx
      clear NBx K Sr Sp
      have Sr := Rr.below (TV.trans (T.mono s0))
      have Sp := Rp.below (TV.trans (T.mono s0))
      refine (calls_ov (ifRoom_true (r := (noiseX r p)) (RM.below ⟨Xxi.ri, Xm.r3, Xxl.r3⟩ (by repeat (first | exact bR | refine bO ?_ | refine bA ?_ | refine bS ?_ | refine bD ?_ | refine bN ?_))) hsx H2)).mono ?_
      rintro e w' ⟨rfl, x, rfl⟩
      obtain ⟨W13, hW⟩ : ∃ W13, W13 = ov W12 x := ⟨_, rfl⟩
      rw [← hW]
      have K : Below W12.heap.size W12 W13 := by rw [hW]; exact (by repeat (first | exact bR | refine bO ?_ | refine bA ?_ | refine bS ?_ | refine bD ?_ | refine bN ?_))
      clear hW
      replace T := T.trans (K.mono T.size)
      replace Br := box_below Br K
      replace Bp := box_below Bp K
      replace Bo := box_below Bo K
      replace Bx := box_below Bx K
      replace Xxi := Xxi.below K
      replace Xxn := Xxn.below K
      replace Xxl := Xxl.below K
      replace Xm := Xm.below K
      clear K Sr Sp
      have Sr := Rr.below (TV.trans (T.mono s0))
      have Sp := Rp.below (TV.trans (T.mono s0))
      obtain ⟨Brc0, Brc1, Brc2, Brc3, Brc4, Brc5, Brc6, Brc7, Brl⟩ := cb8 Br
      obtain ⟨Bpc0, Bpl⟩ := cb1 Bp
      obtain ⟨Boc0, Boc1, Boc2, Boc3, Boc4, Boc5, Boc6, Boc7, Bol⟩ := cb8 Bo
      obtain ⟨Bxc0, Bxc1, Bxc2, Bxc3, Bxc4, Bxc5, Bxc6, Bxc7, Bxl⟩ := cb8 Bx
      have Bof0 := frozen_blk (j := 0) Bo.out
      have Bof1 := frozen_blk (j := 1) Bo.out
      have Bof2 := frozen_blk (j := 2) Bo.out
      have Bof3 := frozen_blk (j := 3) Bo.out
      have Bof4 := frozen_blk (j := 4) Bo.out
      have Bof5 := frozen_blk (j := 5) Bo.out
      have Bof6 := frozen_blk (j := 6) Bo.out
      have Bof7 := frozen_blk (j := 7) Bo.out
      go_wp2
      refine bodyPost_ret (v := .tuple #[.agg #[.slice axi r.m.length dxi, .int .i64 r.q, .int .i64 r.bx, .int .i64 r.by_, .int .i64 r.lo, .int .i64 r.hi, .slice am p.length dm, .slice axl r.ls.length dxl], .bool true]) (by simp [results, Tryz.results12, go_sem, rangeX, noiseX, Boc0, Bof0, Boc1, Bof1, Boc2, Bof2, Boc3, Bof3, Boc4, Bof4, Boc5, Bof5, Boc6, Bof6, Boc7, Bof7, Bol]) rfl ⟨axi, dxi, am, dm, axl, dxl, rfl, RBO.weak (B := V.heap.size) ⟨Xxi.thru k8 Bo.out (by decide), Xm.thru k8 Bo.out (by decide), Xxl.thru k8 Bo.out (by decide), apXxlXm.symm⟩ s0, below8 (TV.trans (T.mono s0)) (Nat.le_trans s0 hbb2)⟩
end Go.Proofs.YtabmfaamadbefaaGreat