/- Contract of the reference's SameRooms. Condition: rows of at most 2^20. -/
import Derived.Test.YtgdleimdenbnlaaKz
set_option linter.unusedVariables false
set_option linter.unusedSimpArgs false
set_option linter.unusedSectionVars false
namespace Go.Proofs.Ytgdleimdenbnlaa
open Go.RowKit
set_option maxRecDepth 100000 in
set_option maxHeartbeats 8000000 in
theorem spec_SameRooms_eq {r : RoomV} {Ar1 Ar2 Ar3 : Option Addr} {cr1 cr2 cr3 : Nat} {t : RoomV} {At1 At2 At3 : Option Addr} {ct1 ct2 ct3 : Nat} {w : World} {v : Bool} (Rr : RM w r Ar1 Ar2 cr2 Ar3 cr3) (hsr : r.Short) (Rt : RM w t At1 At2 ct2 At3 ct3) (hst : t.Short) (h : Hid (sameRoomR r t = v)) :
    Calls Try.prog 46 #[.agg #[.slice Ar1 r.m.length cr1, .int .i64 r.q, .int .i64 r.bx, .int .i64 r.by_, .int .i64 r.lo, .int .i64 r.hi, .slice Ar2 r.ns.length cr2, .slice Ar3 r.ls.length cr3], .agg #[.slice At1 t.m.length ct1, .int .i64 t.q, .int .i64 t.bx, .int .i64 t.by_, .int .i64 t.lo, .int .i64 t.hi, .slice At2 t.ns.length ct2, .slice At3 t.ls.length ct3]] w (fun e w' => e = .returned (.bool v) ∧ Below w.heap.size w w') := by
  have k1 := hsr.m
  have k2 := hsr.ns
  have k3 := hsr.ls
  have l1 := hst.m
  have l2 := hst.ns
  have l3 := hst.ls
  have hv := h.out
  unfold sameRoomR at hv
  clear h
  obtain ⟨t1, h1⟩ : ∃ x, decide (r.m = t.m) = x := ⟨_, rfl⟩
  obtain ⟨t7, h7⟩ : ∃ x, decide (r.ns = t.ns) = x := ⟨_, rfl⟩
  obtain ⟨t8, h8⟩ : ∃ x, decide (r.ls = t.ls) = x := ⟨_, rfl⟩
  rw [h1, h7, h8] at hv
  have H1 := Lib.hid h1
  have H7 := Lib.hid h7
  have H8 := Lib.hid h8
  have hm1 : r.m.length ≠ t.m.length → t1 = false := fun hl => by rw [← h1, decide_eq_false_iff_not]; exact fun e => hl (by rw [e])
  clear h1 h7 h8
  have hc : (v = false ∧ (((r.m.length : Int) != (t.m.length : Int)) = true ∨ (((r.m.length : Int) != (t.m.length : Int)) = false ∧ ¬ r.q = t.q) ∨ (((r.m.length : Int) != (t.m.length : Int)) = false ∧ r.q = t.q ∧ ¬ r.bx = t.bx) ∨ (((r.m.length : Int) != (t.m.length : Int)) = false ∧ r.q = t.q ∧ r.bx = t.bx ∧ ¬ r.by_ = t.by_) ∨ (((r.m.length : Int) != (t.m.length : Int)) = false ∧ r.q = t.q ∧ r.bx = t.bx ∧ r.by_ = t.by_ ∧ ¬ r.lo = t.lo) ∨ (((r.m.length : Int) != (t.m.length : Int)) = false ∧ r.q = t.q ∧ r.bx = t.bx ∧ r.by_ = t.by_ ∧ r.lo = t.lo ∧ ¬ r.hi = t.hi))) ∨ (Hid ((t1 && (t7 && t8)) = v) ∧ Hid (r.m.length = t.m.length) ∧ ((r.m.length : Int) != (t.m.length : Int)) = false ∧ (r.q != t.q) = false ∧ (r.bx != t.bx) = false ∧ (r.by_ != t.by_) = false ∧ (r.lo != t.lo) = false ∧ (r.hi != t.hi) = false) := by
    by_cases hm : r.m.length = t.m.length
    · have e0 : ((r.m.length : Int) != (t.m.length : Int)) = false := by simp [hm]
      rw [e0]
      by_cases q2 : r.q = t.q
      · by_cases q3 : r.bx = t.bx
        · by_cases q4 : r.by_ = t.by_
          · by_cases q5 : r.lo = t.lo
            · by_cases q6 : r.hi = t.hi
              · exact .inr ⟨Lib.hid (by rw [← hv]; simp [q2, q3, q4, q5, q6, Bool.and_assoc]), Lib.hid hm, rfl, by simp [q2], by simp [q3], by simp [q4], by simp [q5], by simp [q6]⟩
              · exact .inl ⟨by rw [← hv]; simp [q6], .inr (.inr (.inr (.inr (.inr ⟨rfl, q2, q3, q4, q5, q6⟩))))⟩
            · exact .inl ⟨by rw [← hv]; simp [q5], .inr (.inr (.inr (.inr (.inl ⟨rfl, q2, q3, q4, q5⟩))))⟩
          · exact .inl ⟨by rw [← hv]; simp [q4], .inr (.inr (.inr (.inl ⟨rfl, q2, q3, q4⟩)))⟩
        · exact .inl ⟨by rw [← hv]; simp [q3], .inr (.inr (.inl ⟨rfl, q2, q3⟩))⟩
      · exact .inl ⟨by rw [← hv]; simp [q2], .inr (.inl ⟨rfl, q2⟩)⟩
    · exact .inl ⟨by rw [← hv, hm1 hm]; simp, .inl (by simp; omega)⟩
  clear hv hm1
  rcases hc with ⟨rfl, hc⟩ | ⟨HV, HL, q1, q2, q3, q4, q5, q6⟩
  · rcases hc with q1 | ⟨q1, q2⟩ | ⟨q1, q2, q3⟩ | ⟨q1, q2, q3, q4⟩ | ⟨q1, q2, q3, q4, q5⟩ | ⟨q1, q2, q3, q4, q5, q6⟩
    all_goals
      go_enter Try.func46, Try.ntmps46
      go_wp2
      go_ret
      exact ⟨rfl, (by repeat (first | exact Below.refl _ _ | refine below_ov _ _ ?_ (by first | omega | (simp [ov_size] <;> omega)) | refine Below.alloc ?_ (by first | omega | (simp [ov_size] <;> omega)) _ | refine Below.setCell ?_ (by first | omega | (simp [ov_size] <;> omega)) _ | refine Below.drew ?_ | refine below_drewN ?_ _))⟩
  · skip
    go_enter Try.func46, Try.ntmps46
    go_wp2_with fail
    obtain ⟨V, hV⟩ : ∃ V, ((w.alloc (.cells #[.slice Ar1 r.m.length cr1, .int .i64 r.q, .int .i64 r.bx, .int .i64 r.by_, .int .i64 r.lo, .int .i64 r.hi, .slice Ar2 r.ns.length cr2, .slice Ar3 r.ls.length cr3] 36)).alloc (.cells #[.slice At1 t.m.length ct1, .int .i64 t.q, .int .i64 t.bx, .int .i64 t.by_, .int .i64 t.lo, .int .i64 t.hi, .slice At2 t.ns.length ct2, .slice At3 t.ls.length ct3] 36)) = V := ⟨_, rfl⟩
    have TV : Below w.heap.size w V := by rw [← hV]; exact (by repeat (first | exact Below.refl _ _ | refine below_ov _ _ ?_ (by first | omega | (simp [ov_size] <;> omega)) | refine Below.alloc ?_ (by first | omega | (simp [ov_size] <;> omega)) _ | refine Below.setCell ?_ (by first | omega | (simp [ov_size] <;> omega)) _ | refine Below.drew ?_ | refine below_drewN ?_ _))
    have X0 : V.heap[w.heap.size]? = some (.cells #[.slice Ar1 r.m.length cr1, .int .i64 r.q, .int .i64 r.bx, .int .i64 r.by_, .int .i64 r.lo, .int .i64 r.hi, .slice Ar2 r.ns.length cr2, .slice Ar3 r.ls.length cr3] 36 (0, 0)) := by rw [← hV]; exact ((heap_old_at (by first | (simp; done) | (simp <;> omega))).trans (heap_new_at (by first | (simp; done) | (simp <;> omega)) rfl))
    have X1 : V.heap[w.heap.size + 1]? = some (.cells #[.slice At1 t.m.length ct1, .int .i64 t.q, .int .i64 t.bx, .int .i64 t.by_, .int .i64 t.lo, .int .i64 t.hi, .slice At2 t.ns.length ct2, .slice At3 t.ls.length ct3] 36 (0, 0)) := by rw [← hV]; exact (heap_new_at (by first | (simp; done) | (simp <;> omega)) rfl)
    rw [hV]
    clear hV
    have hbb1 : w.heap.size ≤ w.heap.size + 1 := by omega
    generalize w.heap.size + 1 = ba1 at X1 hbb1 ⊢
    obtain ⟨W0, hW⟩ : ∃ W0, W0 = V := ⟨_, rfl⟩
    rw [← hW]
    have T : Below V.heap.size V W0 := by rw [hW]; exact Below.refl _ _
    have hWV := hW
    clear hW
    have Br := box_below (Lib.hid X0) T
    clear X0
    have Bt := box_below (Lib.hid X1) T
    clear X1
    have s0 : w.heap.size ≤ V.heap.size := TV.size
    obtain ⟨ba0, hba0⟩ : ∃ b, w.heap.size = b := ⟨_, rfl⟩
    rw [hba0] at Br
    try rw [hba0]
    have Sr := Rr.below (TV.trans (T.mono s0))
    have St := Rt.below (TV.trans (T.mono s0))
    have BrV := Br
    have BtV := Bt
    have T00 : Below V.heap.size V W0 := T
    clear hWV
    replace TV := TV.trans (T00.mono s0)
    replace s0 : w.heap.size ≤ W0.heap.size := TV.size
    clear T00
    have Brc0 := cell_blk (j := 0) (v := .slice Ar1 r.m.length cr1) Br.out rfl
    have Brc1 := cell_blk (j := 1) (v := .int .i64 r.q) Br.out rfl
    have Brc2 := cell_blk (j := 2) (v := .int .i64 r.bx) Br.out rfl
    have Brc3 := cell_blk (j := 3) (v := .int .i64 r.by_) Br.out rfl
    have Brc4 := cell_blk (j := 4) (v := .int .i64 r.lo) Br.out rfl
    have Brc5 := cell_blk (j := 5) (v := .int .i64 r.hi) Br.out rfl
    have Brc6 := cell_blk (j := 6) (v := .slice Ar2 r.ns.length cr2) Br.out rfl
    have Brc7 := cell_blk (j := 7) (v := .slice Ar3 r.ls.length cr3) Br.out rfl
    have Brl := (Array.getElem?_eq_some_iff.1 Br.out).1
    have Btc0 := cell_blk (j := 0) (v := .slice At1 t.m.length ct1) Bt.out rfl
    have Btc1 := cell_blk (j := 1) (v := .int .i64 t.q) Bt.out rfl
    have Btc2 := cell_blk (j := 2) (v := .int .i64 t.bx) Bt.out rfl
    have Btc3 := cell_blk (j := 3) (v := .int .i64 t.by_) Bt.out rfl
    have Btc4 := cell_blk (j := 4) (v := .int .i64 t.lo) Bt.out rfl
    have Btc5 := cell_blk (j := 5) (v := .int .i64 t.hi) Bt.out rfl
    have Btc6 := cell_blk (j := 6) (v := .slice At2 t.ns.length ct2) Bt.out rfl
    have Btc7 := cell_blk (j := 7) (v := .slice At3 t.ls.length ct3) Bt.out rfl
    have Btl := (Array.getElem?_eq_some_iff.1 Bt.out).1
    go_wp2
    clear Brc0 Brc1 Brc2 Brc3 Brc4 Brc5 Brc6 Brc7 Btc0 Btc1 Btc2 Btc3 Btc4 Btc5 Btc6 Btc7 Brl Btl
    clear Br Bt Sr St T
    go_loopw [52] (fun i wr => ∃ k : Nat, k ≤ r.m.length ∧ i = .int .i64 k ∧ Hid (r.m.take k = t.m.take k) ∧ Below W0.heap.size W0 wr) (fun i _ => r.m.length - (intOf i).toNat)
    case atStart => exact ⟨0, Nat.zero_le _, rfl, Lib.hid rfl, Below.refl _ _⟩
    case round =>
      obtain ⟨k, hk, rfl, HA, T⟩ := hrel
      have s1 := T.size
      have Br := box_below BrV T
      have Bt := box_below BtV T
      have Sr := Rr.below (TV.trans (T.mono s0))
      have St := Rt.below (TV.trans (T.mono s0))
      by_cases hlt : k < r.m.length
      · have hlt2 : k < t.m.length := by have := HL.out; omega
        obtain ⟨g1, o1, rfl, hg1, z0⟩ := Sr.mr k hlt
        obtain ⟨g2, o2, rfl, hg2, y0⟩ := St.mr k hlt2
        by_cases he : r.m[k] = t.m[k]
        · have HE := Lib.hid he
          have hz2 : (r.m[k] != t.m[k]) = false := by simp [he]
          clear he
          have Brc0 := cell_blk (j := 0) (v := .slice (some ⟨g1, o1, none⟩) r.m.length cr1) Br.out rfl
          have Brc1 := cell_blk (j := 1) (v := .int .i64 r.q) Br.out rfl
          have Brc2 := cell_blk (j := 2) (v := .int .i64 r.bx) Br.out rfl
          have Brc3 := cell_blk (j := 3) (v := .int .i64 r.by_) Br.out rfl
          have Brc4 := cell_blk (j := 4) (v := .int .i64 r.lo) Br.out rfl
          have Brc5 := cell_blk (j := 5) (v := .int .i64 r.hi) Br.out rfl
          have Brc6 := cell_blk (j := 6) (v := .slice Ar2 r.ns.length cr2) Br.out rfl
          have Brc7 := cell_blk (j := 7) (v := .slice Ar3 r.ls.length cr3) Br.out rfl
          have Brl := (Array.getElem?_eq_some_iff.1 Br.out).1
          have Btc0 := cell_blk (j := 0) (v := .slice (some ⟨g2, o2, none⟩) t.m.length ct1) Bt.out rfl
          have Btc1 := cell_blk (j := 1) (v := .int .i64 t.q) Bt.out rfl
          have Btc2 := cell_blk (j := 2) (v := .int .i64 t.bx) Bt.out rfl
          have Btc3 := cell_blk (j := 3) (v := .int .i64 t.by_) Bt.out rfl
          have Btc4 := cell_blk (j := 4) (v := .int .i64 t.lo) Bt.out rfl
          have Btc5 := cell_blk (j := 5) (v := .int .i64 t.hi) Bt.out rfl
          have Btc6 := cell_blk (j := 6) (v := .slice At2 t.ns.length ct2) Bt.out rfl
          have Btc7 := cell_blk (j := 7) (v := .slice At3 t.ls.length ct3) Bt.out rfl
          have Btl := (Array.getElem?_eq_some_iff.1 Bt.out).1
          clear BrV BtV Br Bt Sr St Rr Rt
          have hlt3 : (k : Int) < (t.m.length : Int) := by omega
          go_wp2
          try ((first | (with_reducible refine wp_region_calm2 (by kernel_rfl) (by kernel_rfl) ?_) | refine wp_region_calm (by kernel_rfl) (by kernel_rfl) ?_); (repeat (go_big_quiet_step (first | fail))); refine wpQuiet_nil ?_; rintro _ ⟨y, rfl⟩)
          go_wp2
          go_roundw
          case rel => exact ⟨k + 1, by omega, by go_num, Lib.hid (by rw [List.take_succ_eq_append_getElem hlt, List.take_succ_eq_append_getElem hlt2, HA.out, HE.out]), (by repeat (first | exact T | refine below_ov _ _ ?_ (by first | omega | (simp [ov_size] <;> omega)) | refine Below.alloc ?_ (by first | omega | (simp [ov_size] <;> omega)) _ | refine Below.setCell ?_ (by first | omega | (simp [ov_size] <;> omega)) _ | refine Below.drew ?_ | refine below_drewN ?_ _))⟩
          case measure => simp [intOf]; omega
        · obtain rfl : v = false := by
            rw [← HV.out, ← H1.out]
            have : decide (r.m = t.m) = false := by
              rw [decide_eq_false_iff_not]
              intro e
              exact he (by simp only [e])
            rw [this]; rfl
          have hz2 : (r.m[k] != t.m[k]) = true := by simp [he]
          have Brc0 := cell_blk (j := 0) (v := .slice (some ⟨g1, o1, none⟩) r.m.length cr1) Br.out rfl
          have Brc1 := cell_blk (j := 1) (v := .int .i64 r.q) Br.out rfl
          have Brc2 := cell_blk (j := 2) (v := .int .i64 r.bx) Br.out rfl
          have Brc3 := cell_blk (j := 3) (v := .int .i64 r.by_) Br.out rfl
          have Brc4 := cell_blk (j := 4) (v := .int .i64 r.lo) Br.out rfl
          have Brc5 := cell_blk (j := 5) (v := .int .i64 r.hi) Br.out rfl
          have Brc6 := cell_blk (j := 6) (v := .slice Ar2 r.ns.length cr2) Br.out rfl
          have Brc7 := cell_blk (j := 7) (v := .slice Ar3 r.ls.length cr3) Br.out rfl
          have Brl := (Array.getElem?_eq_some_iff.1 Br.out).1
          have Btc0 := cell_blk (j := 0) (v := .slice (some ⟨g2, o2, none⟩) t.m.length ct1) Bt.out rfl
          have Btc1 := cell_blk (j := 1) (v := .int .i64 t.q) Bt.out rfl
          have Btc2 := cell_blk (j := 2) (v := .int .i64 t.bx) Bt.out rfl
          have Btc3 := cell_blk (j := 3) (v := .int .i64 t.by_) Bt.out rfl
          have Btc4 := cell_blk (j := 4) (v := .int .i64 t.lo) Bt.out rfl
          have Btc5 := cell_blk (j := 5) (v := .int .i64 t.hi) Bt.out rfl
          have Btc6 := cell_blk (j := 6) (v := .slice At2 t.ns.length ct2) Bt.out rfl
          have Btc7 := cell_blk (j := 7) (v := .slice At3 t.ls.length ct3) Bt.out rfl
          have Btl := (Array.getElem?_eq_some_iff.1 Bt.out).1
          clear BrV BtV Br Bt Sr St Rr Rt
          have hlt3 : (k : Int) < (t.m.length : Int) := by omega
          go_wp2
          try ((first | (with_reducible refine wp_region_calm2 (by kernel_rfl) (by kernel_rfl) ?_) | refine wp_region_calm (by kernel_rfl) (by kernel_rfl) ?_); (repeat (go_big_quiet_step (first | fail))); refine wpQuiet_nil ?_; rintro _ ⟨y, rfl⟩)
          go_wp2
          go_ret
          exact ⟨rfl, (by repeat (first | exact TV.trans (T.mono s0) | refine below_ov _ _ ?_ (by first | omega | (simp [ov_size] <;> omega)) | refine Below.alloc ?_ (by first | omega | (simp [ov_size] <;> omega)) _ | refine Below.setCell ?_ (by first | omega | (simp [ov_size] <;> omega)) _ | refine Below.drew ?_ | refine below_drewN ?_ _))⟩
      · obtain rfl : k = r.m.length := by omega
        obtain rfl : t1 = true := by
          rw [← H1.out, decide_eq_true_eq]
          have := HA.out
          rwa [List.take_length, HL.out, List.take_length] at this
        have hc : (v = false ∧ (t7 = false ∨ (t7 = true ∧ t8 = false))) ∨ (v = true ∧ t7 = true ∧ t8 = true) := by
          rw [← HV.out]
          cases t7 <;> cases t8 <;> simp
        rcases hc with ⟨rfl, rfl | ⟨rfl, rfl⟩⟩ | ⟨rfl, rfl, rfl⟩
        all_goals
          have Brc0 := cell_blk (j := 0) (v := .slice Ar1 r.m.length cr1) Br.out rfl
          have Brc1 := cell_blk (j := 1) (v := .int .i64 r.q) Br.out rfl
          have Brc2 := cell_blk (j := 2) (v := .int .i64 r.bx) Br.out rfl
          have Brc3 := cell_blk (j := 3) (v := .int .i64 r.by_) Br.out rfl
          have Brc4 := cell_blk (j := 4) (v := .int .i64 r.lo) Br.out rfl
          have Brc5 := cell_blk (j := 5) (v := .int .i64 r.hi) Br.out rfl
          have Brc6 := cell_blk (j := 6) (v := .slice Ar2 r.ns.length cr2) Br.out rfl
          have Brc7 := cell_blk (j := 7) (v := .slice Ar3 r.ls.length cr3) Br.out rfl
          have Brl := (Array.getElem?_eq_some_iff.1 Br.out).1
          have Btc0 := cell_blk (j := 0) (v := .slice At1 t.m.length ct1) Bt.out rfl
          have Btc1 := cell_blk (j := 1) (v := .int .i64 t.q) Bt.out rfl
          have Btc2 := cell_blk (j := 2) (v := .int .i64 t.bx) Bt.out rfl
          have Btc3 := cell_blk (j := 3) (v := .int .i64 t.by_) Bt.out rfl
          have Btc4 := cell_blk (j := 4) (v := .int .i64 t.lo) Bt.out rfl
          have Btc5 := cell_blk (j := 5) (v := .int .i64 t.hi) Bt.out rfl
          have Btc6 := cell_blk (j := 6) (v := .slice At2 t.ns.length ct2) Bt.out rfl
          have Btc7 := cell_blk (j := 7) (v := .slice At3 t.ls.length ct3) Bt.out rfl
          have Btl := (Array.getElem?_eq_some_iff.1 Bt.out).1
          go_wp2_with (first | (go_at_call 92; (first | (with_reducible refine (calls_ov2 (spec_SameRegion_eq (by first | exact Sr.nr.below (by repeat (first | exact Below.refl _ _ | refine below_ov _ _ ?_ (by first | omega | (simp [ov_size] <;> omega)) | refine Below.alloc ?_ (by first | omega | (simp [ov_size] <;> omega)) _ | refine Below.setCell ?_ (by first | omega | (simp [ov_size] <;> omega)) _ | refine Below.drew ?_ | refine below_drewN ?_ _)) | exact Sr.lr.below (by repeat (first | exact Below.refl _ _ | refine below_ov _ _ ?_ (by first | omega | (simp [ov_size] <;> omega)) | refine Below.alloc ?_ (by first | omega | (simp [ov_size] <;> omega)) _ | refine Below.setCell ?_ (by first | omega | (simp [ov_size] <;> omega)) _ | refine Below.drew ?_ | refine below_drewN ?_ _))) (by first | exact St.nr.below (by repeat (first | exact Below.refl _ _ | refine below_ov _ _ ?_ (by first | omega | (simp [ov_size] <;> omega)) | refine Below.alloc ?_ (by first | omega | (simp [ov_size] <;> omega)) _ | refine Below.setCell ?_ (by first | omega | (simp [ov_size] <;> omega)) _ | refine Below.drew ?_ | refine below_drewN ?_ _)) | exact St.lr.below (by repeat (first | exact Below.refl _ _ | refine below_ov _ _ ?_ (by first | omega | (simp [ov_size] <;> omega)) | refine Below.alloc ?_ (by first | omega | (simp [ov_size] <;> omega)) _ | refine Below.setCell ?_ (by first | omega | (simp [ov_size] <;> omega)) _ | refine Below.drew ?_ | refine below_drewN ?_ _))) (by omega) (by omega) (by first | exact H7 | exact H8))).mono ?_) | refine (calls_ov (spec_SameRegion_eq (by first | exact Sr.nr.below (by repeat (first | exact Below.refl _ _ | refine below_ov _ _ ?_ (by first | omega | (simp [ov_size] <;> omega)) | refine Below.alloc ?_ (by first | omega | (simp [ov_size] <;> omega)) _ | refine Below.setCell ?_ (by first | omega | (simp [ov_size] <;> omega)) _ | refine Below.drew ?_ | refine below_drewN ?_ _)) | exact Sr.lr.below (by repeat (first | exact Below.refl _ _ | refine below_ov _ _ ?_ (by first | omega | (simp [ov_size] <;> omega)) | refine Below.alloc ?_ (by first | omega | (simp [ov_size] <;> omega)) _ | refine Below.setCell ?_ (by first | omega | (simp [ov_size] <;> omega)) _ | refine Below.drew ?_ | refine below_drewN ?_ _))) (by first | exact St.nr.below (by repeat (first | exact Below.refl _ _ | refine below_ov _ _ ?_ (by first | omega | (simp [ov_size] <;> omega)) | refine Below.alloc ?_ (by first | omega | (simp [ov_size] <;> omega)) _ | refine Below.setCell ?_ (by first | omega | (simp [ov_size] <;> omega)) _ | refine Below.drew ?_ | refine below_drewN ?_ _)) | exact St.lr.below (by repeat (first | exact Below.refl _ _ | refine below_ov _ _ ?_ (by first | omega | (simp [ov_size] <;> omega)) | refine Below.alloc ?_ (by first | omega | (simp [ov_size] <;> omega)) _ | refine Below.setCell ?_ (by first | omega | (simp [ov_size] <;> omega)) _ | refine Below.drew ?_ | refine below_drewN ?_ _))) (by omega) (by omega) (by first | exact H7 | exact H8))).mono ?_); rintro e w' ⟨rfl, x, rfl⟩))
          go_ret
          exact ⟨rfl, (by repeat (first | exact TV.trans (T.mono s0) | refine below_ov _ _ ?_ (by first | omega | (simp [ov_size] <;> omega)) | refine Below.alloc ?_ (by first | omega | (simp [ov_size] <;> omega)) _ | refine Below.setCell ?_ (by first | omega | (simp [ov_size] <;> omega)) _ | refine Below.drew ?_ | refine below_drewN ?_ _))⟩
end Go.Proofs.Ytgdleimdenbnlaa
