/- Contracts of KeptRegion and RoundsOf of both sides. Condition: rows are short. -/
import Derived.Test.YtabmfaamadbefaaGreatQf
set_option linter.unusedVariables false
set_option linter.unusedSimpArgs false
set_option linter.unusedSectionVars false
namespace Go.Proofs.YtabmfaamadbefaaGreat
open Go.RowKit
def keptOf (x : (List H3 × Int × Bool) × Bool) : List H3 × Bool := if x.2 = true ∧ x.1.2.2 = true then (x.1.1, true) else ([], false)
def keptR (r : RoomV) : List H3 × Bool := keptOf (runR r 12)
def roundsOf (x : (List H3 × Int × Bool) × Bool) : Int := if x.2 = true ∧ x.1.2.2 = true then x.1.2.1 else -1
def roundsR (r : RoomV) : Int := roundsOf (runR r 12)
theorem keptR_reg {r : RoomV} {out : List H3} {ok : Bool} (h : keptR r = (out, ok)) : regionOk out = true := by
  unfold keptR keptOf at h
  obtain ⟨⟨⟨p, kn, ks⟩, v⟩, hx⟩ : ∃ s, runR r 12 = s := ⟨_, rfl⟩
  rw [hx] at h
  split at h
  · injection h with h _
    rw [← h]; exact runR_reg hx
  · injection h with h _
    rw [← h]; rfl
theorem keptR_short {r : RoomV} {out : List H3} {ok : Bool} (h : keptR r = (out, ok)) : out.length ≤ 1000 := by
  have := (region_good (keptR_reg h)).2
  omega
set_option maxRecDepth 100000 in
set_option maxHeartbeats 8000000 in
theorem impl_KeptRegion_eq {r : RoomV} {Ar1 Ar2 Ar3 : Option Addr} {cr1 cr2 cr3 : Nat} {w : World} {out : List H3} {ok : Bool} (Rr : RM w r Ar1 Ar2 cr2 Ar3 cr3) (hsr : r.Short) (hr : Hid (keptR r = (out, ok))) :
    Calls Tryz.prog 11 #[.agg #[.slice Ar1 r.m.length cr1, .int .i64 r.q, .int .i64 r.bx, .int .i64 r.by_, .int .i64 r.lo, .int .i64 r.hi, .slice Ar2 r.ns.length cr2, .slice Ar3 r.ls.length cr3]] w (RegPost w out ok) := by
  have hk := hr.out
  unfold keptR at hk
  clear hr
  obtain ⟨⟨⟨p, kn, ks⟩, v⟩, hx⟩ : ∃ s, runR r 12 = s := ⟨_, rfl⟩
  rw [hx] at hk
  have HX := Lib.hid hx
  clear hx
  unfold keptOf at hk
  have hc : (v = false ∨ (v = true ∧ ks = false)) ∨ (v = true ∧ ks = true) := by cases v <;> cases ks <;> simp
  rcases hc with hc | ⟨rfl, rfl⟩
  · rw [if_neg (by rcases hc with rfl | ⟨rfl, rfl⟩ <;> simp), Prod.mk.injEq] at hk
    obtain ⟨rfl, rfl⟩ := hk
    rcases hc with rfl | ⟨rfl, rfl⟩
    all_goals
      go_enter Tryz.func11, Tryz.ntmps11
      go_wp2_with fail
      obtain ⟨V, hV⟩ : ∃ V, ((w.alloc (.cells #[.slice Ar1 r.m.length cr1, .int .i64 r.q, .int .i64 r.bx, .int .i64 r.by_, .int .i64 r.lo, .int .i64 r.hi, .slice Ar2 r.ns.length cr2, .slice Ar3 r.ls.length cr3] 28)).alloc (.cells #[.slice none 0 0] 26)) = V := ⟨_, rfl⟩
      have TV : Below w.heap.size w V := by rw [← hV]; exact (by repeat (first | exact bR | refine bO ?_ | refine bA ?_ | refine bS ?_ | refine bD ?_ | refine bN ?_))
      have X0 : V.heap[w.heap.size]? = some (.cells #[.slice Ar1 r.m.length cr1, .int .i64 r.q, .int .i64 r.bx, .int .i64 r.by_, .int .i64 r.lo, .int .i64 r.hi, .slice Ar2 r.ns.length cr2, .slice Ar3 r.ls.length cr3] 28 (0, 0)) := by rw [← hV]; exact ((heap_old_at (by first | (simp; done) | (simp <;> omega))).trans (heap_new_at (by first | (simp; done) | (simp <;> omega)) rfl))
      have X1 : V.heap[w.heap.size + 1]? = some (.cells #[.slice none 0 0] 26 (0, 0)) := by rw [← hV]; exact (heap_new_at (by first | (simp; done) | (simp <;> omega)) rfl)
      rw [hV]
      clear hV
      have hbb1 : w.heap.size ≤ w.heap.size + 1 := by omega
      generalize w.heap.size + 1 = ba1 at X1 hbb1 ⊢
      obtain ⟨W0, hW⟩ : ∃ W0, W0 = V := ⟨_, rfl⟩
      rw [← hW]
      have T : Below V.heap.size V W0 := by rw [hW]; exact Below.refl _ _
      clear hW
      have Br := box_below (Lib.hid X0) T
      clear X0
      have Bo := box_below (Lib.hid X1) T
      clear X1
      have s0 : w.heap.size ≤ V.heap.size := TV.size
      obtain ⟨ba0, hba0⟩ : ∃ b, w.heap.size = b := ⟨_, rfl⟩
      rw [hba0] at Br
      try rw [hba0]
      have Sr := Rr.below (TV.trans (T.mono s0))
      refine (impl_RunRounds_eq (n1 := 12) (Sr.below (by repeat (first | exact bR | refine bO ?_ | refine bA ?_ | refine bS ?_ | refine bD ?_ | refine bN ?_))) hsr HX).mono ?_
      rintro e W1 ⟨ak, dk, rfl, Xk, hb⟩
      have K : Below W0.heap.size W0 W1 := Below.trans (by repeat (first | exact bR | refine bO ?_ | refine bA ?_ | refine bS ?_ | refine bD ?_ | refine bN ?_)) (hb.mono (by first | exact Nat.le_refl _ | simp [ov_size]))
      replace Xk := Xk.weak (B' := V.heap.size) (by have := T.size; (try simp [ov_size]); omega)
      clear hb
      replace T := T.trans (K.mono T.size)
      replace Br := box_below Br K
      replace Bo := box_below Bo K
      clear K Sr
      have Sr := Rr.below (TV.trans (T.mono s0))
      obtain ⟨Brc0, Brc1, Brc2, Brc3, Brc4, Brc5, Brc6, Brc7, Brl⟩ := cb8 Br
      obtain ⟨Boc0, Bol⟩ := cb1 Bo
      have Bof0 := frozen_blk (j := 0) Bo.out
      go_wp2
      refine bodyPost_ret (v := .tuple #[.agg #[.slice none 0 0], .bool false]) (by simp [results, Tryz.results11, go_sem, Boc0, Bol]) rfl ⟨none, 0, rfl, RB.nil _ _ _, ?_⟩
      exact (by repeat (first | exact TV.trans (T.mono s0) | refine bO ?_ | refine bA ?_ | refine bS ?_ | refine bD ?_ | refine bN ?_))
  · rw [if_pos ⟨rfl, rfl⟩, Prod.mk.injEq] at hk
    obtain ⟨rfl, rfl⟩ := hk
    go_enter Tryz.func11, Tryz.ntmps11
    go_wp2_with fail
    obtain ⟨V, hV⟩ : ∃ V, ((w.alloc (.cells #[.slice Ar1 r.m.length cr1, .int .i64 r.q, .int .i64 r.bx, .int .i64 r.by_, .int .i64 r.lo, .int .i64 r.hi, .slice Ar2 r.ns.length cr2, .slice Ar3 r.ls.length cr3] 28)).alloc (.cells #[.slice none 0 0] 26)) = V := ⟨_, rfl⟩
    have TV : Below w.heap.size w V := by rw [← hV]; exact (by repeat (first | exact bR | refine bO ?_ | refine bA ?_ | refine bS ?_ | refine bD ?_ | refine bN ?_))
    have X0 : V.heap[w.heap.size]? = some (.cells #[.slice Ar1 r.m.length cr1, .int .i64 r.q, .int .i64 r.bx, .int .i64 r.by_, .int .i64 r.lo, .int .i64 r.hi, .slice Ar2 r.ns.length cr2, .slice Ar3 r.ls.length cr3] 28 (0, 0)) := by rw [← hV]; exact ((heap_old_at (by first | (simp; done) | (simp <;> omega))).trans (heap_new_at (by first | (simp; done) | (simp <;> omega)) rfl))
    have X1 : V.heap[w.heap.size + 1]? = some (.cells #[.slice none 0 0] 26 (0, 0)) := by rw [← hV]; exact (heap_new_at (by first | (simp; done) | (simp <;> omega)) rfl)
    rw [hV]
    clear hV
    have hbb1 : w.heap.size ≤ w.heap.size + 1 := by omega
    generalize w.heap.size + 1 = ba1 at X1 hbb1 ⊢
    obtain ⟨W0, hW⟩ : ∃ W0, W0 = V := ⟨_, rfl⟩
    rw [← hW]
    have T : Below V.heap.size V W0 := by rw [hW]; exact Below.refl _ _
    clear hW
    have Br := box_below (Lib.hid X0) T
    clear X0
    have Bo := box_below (Lib.hid X1) T
    clear X1
    have s0 : w.heap.size ≤ V.heap.size := TV.size
    obtain ⟨ba0, hba0⟩ : ∃ b, w.heap.size = b := ⟨_, rfl⟩
    rw [hba0] at Br
    try rw [hba0]
    have Sr := Rr.below (TV.trans (T.mono s0))
    refine (impl_RunRounds_eq (n1 := 12) (Sr.below (by repeat (first | exact bR | refine bO ?_ | refine bA ?_ | refine bS ?_ | refine bD ?_ | refine bN ?_))) hsr HX).mono ?_
    rintro e W2 ⟨ak, dk, rfl, Xk, hb⟩
    have K : Below W0.heap.size W0 W2 := Below.trans (by repeat (first | exact bR | refine bO ?_ | refine bA ?_ | refine bS ?_ | refine bD ?_ | refine bN ?_)) (hb.mono (by first | exact Nat.le_refl _ | simp [ov_size]))
    replace Xk := Xk.weak (B' := V.heap.size) (by have := T.size; (try simp [ov_size]); omega)
    clear hb
    replace T := T.trans (K.mono T.size)
    replace Br := box_below Br K
    replace Bo := box_below Bo K
    clear K Sr
    have Sr := Rr.below (TV.trans (T.mono s0))
    obtain ⟨Brc0, Brc1, Brc2, Brc3, Brc4, Brc5, Brc6, Brc7, Brl⟩ := cb8 Br
    obtain ⟨Boc0, Bol⟩ := cb1 Bo
    have Bof0 := frozen_blk (j := 0) Bo.out
    go_wp2
    refine bodyPost_ret (v := .tuple #[.agg #[.slice ak p.length dk], .bool true]) (by simp [results, Tryz.results11, go_sem, Boc0, Bol]) rfl ⟨ak, dk, rfl, RB.weak (RB.below (RB.set_box Xk Bo.out (by decide)) (Below.alloc (Below.refl _ _) (Nat.le_refl _) _)) s0, ?_⟩
    exact (by repeat (first | exact TV.trans (T.mono s0) | refine bO ?_ | refine bA ?_ | refine bS ?_ | refine bD ?_ | refine bN ?_))

set_option maxRecDepth 100000 in
set_option maxHeartbeats 8000000 in
theorem impl_RoundsOf_eq {r : RoomV} {Ar1 Ar2 Ar3 : Option Addr} {cr1 cr2 cr3 : Nat} {w : World} {v : Int} (Rr : RM w r Ar1 Ar2 cr2 Ar3 cr3) (hsr : r.Short) (hr : Hid (roundsR r = v)) :
    Calls Tryz.prog 16 #[.agg #[.slice Ar1 r.m.length cr1, .int .i64 r.q, .int .i64 r.bx, .int .i64 r.by_, .int .i64 r.lo, .int .i64 r.hi, .slice Ar2 r.ns.length cr2, .slice Ar3 r.ls.length cr3]] w (fun e w' => e = .returned (.int .i64 v) ∧ Below w.heap.size w w') := by
  have hk := hr.out
  unfold roundsR at hk
  clear hr
  obtain ⟨⟨⟨p, kn, ks⟩, t⟩, hx⟩ : ∃ s, runR r 12 = s := ⟨_, rfl⟩
  rw [hx] at hk
  have HX := Lib.hid hx
  clear hx
  unfold roundsOf at hk
  have hc : (v = -1 ∧ (t = false ∨ (t = true ∧ ks = false))) ∨ (v = kn ∧ t = true ∧ ks = true) := by
    rw [← hk]
    cases t <;> cases ks <;> simp
  clear hk
  rcases hc with ⟨rfl, rfl | ⟨rfl, rfl⟩⟩ | ⟨rfl, rfl, rfl⟩
  all_goals
    go_enter Tryz.func16, Tryz.ntmps16
    go_wp2_with fail
    obtain ⟨V, hV⟩ : ∃ V, (w.alloc (.cells #[.slice Ar1 r.m.length cr1, .int .i64 r.q, .int .i64 r.bx, .int .i64 r.by_, .int .i64 r.lo, .int .i64 r.hi, .slice Ar2 r.ns.length cr2, .slice Ar3 r.ls.length cr3] 28)) = V := ⟨_, rfl⟩
    have TV : Below w.heap.size w V := by rw [← hV]; exact (by repeat (first | exact bR | refine bO ?_ | refine bA ?_ | refine bS ?_ | refine bD ?_ | refine bN ?_))
    have X0 : V.heap[w.heap.size]? = some (.cells #[.slice Ar1 r.m.length cr1, .int .i64 r.q, .int .i64 r.bx, .int .i64 r.by_, .int .i64 r.lo, .int .i64 r.hi, .slice Ar2 r.ns.length cr2, .slice Ar3 r.ls.length cr3] 28 (0, 0)) := by rw [← hV]; exact (heap_new_at (by first | (simp; done) | (simp <;> omega)) rfl)
    rw [hV]
    clear hV
    obtain ⟨W0, hW⟩ : ∃ W0, W0 = V := ⟨_, rfl⟩
    rw [← hW]
    have T : Below V.heap.size V W0 := by rw [hW]; exact Below.refl _ _
    clear hW
    have Br := box_below (Lib.hid X0) T
    clear X0
    have s0 : w.heap.size ≤ V.heap.size := TV.size
    obtain ⟨ba0, hba0⟩ : ∃ b, w.heap.size = b := ⟨_, rfl⟩
    rw [hba0] at Br
    try rw [hba0]
    have Sr := Rr.below (TV.trans (T.mono s0))
    refine (impl_RunRounds_eq (n1 := 12) (Sr.below (by repeat (first | exact bR | refine bO ?_ | refine bA ?_ | refine bS ?_ | refine bD ?_ | refine bN ?_))) hsr HX).mono ?_
    rintro e W1 ⟨ak, dk, rfl, Xk, hb⟩
    have K : Below W0.heap.size W0 W1 := Below.trans (by repeat (first | exact bR | refine bO ?_ | refine bA ?_ | refine bS ?_ | refine bD ?_ | refine bN ?_)) (hb.mono (by first | exact Nat.le_refl _ | simp [ov_size]))
    replace Xk := Xk.weak (B' := V.heap.size) (by have := T.size; (try simp [ov_size]); omega)
    clear hb
    replace T := T.trans (K.mono T.size)
    replace Br := box_below Br K
    clear K Sr
    have Sr := Rr.below (TV.trans (T.mono s0))
    obtain ⟨Brc0, Brc1, Brc2, Brc3, Brc4, Brc5, Brc6, Brc7, Brl⟩ := cb8 Br
    go_wp2
    go_ret
    exact ⟨rfl, (by repeat (first | exact TV.trans (T.mono s0) | refine bO ?_ | refine bA ?_ | refine bS ?_ | refine bD ?_ | refine bN ?_))⟩

end Go.Proofs.YtabmfaamadbefaaGreat