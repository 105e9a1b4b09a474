/- Contracts of HasSpot and CanBeKept of both sides. Condition: rows are short. -/
import Derived.Test.YtgdleimdenbnlaaGreatQg
import Derived.Test.YtgdleimdenbnlaaGreatHs
set_option linter.unusedVariables false
set_option linter.unusedSimpArgs false
set_option linter.unusedSectionVars false
namespace Go.Proofs.YtgdleimdenbnlaaGreat
open Go.RowKit

structure SpB (x y d : Int) : Prop where
  x : -9223372036854775808 ≤ x ∧ x ≤ 9223372036854775807
  y : -9223372036854775808 ≤ y ∧ y ≤ 9223372036854775807
  d : -9223372036854775808 ≤ d ∧ d ≤ 9223372036854775807

def hasSpotR (ps : List H3) (x y d : Int) : Bool := regionOk ps && spotOk x y d && hasL ps ⟨x, y, d⟩
def canR (r : RoomV) (x y d : Int) : Bool := (keptR r).2 && hasSpotR (keptR r).1 x y d
set_option maxRecDepth 100000 in
set_option maxHeartbeats 8000000 in
theorem impl_HasSpot_eq {p : List H3} {Ap : Option Addr} {cp : Nat} {x1 y1 d1 : Int} {v : Bool} {w : World} (Rp : R3 99 w Ap cp p) (hlp : p.length ≤ 1000000000) (S : SpB x1 y1 d1) (hr : Hid (hasSpotR p x1 y1 d1 = v)) :
    Calls Tryz.prog 89 #[.agg #[.slice Ap p.length cp], .agg #[.int .i64 x1, .int .i64 y1, .int .i64 d1]] w (fun e w' => e = .returned (.bool v) ∧ Below w.heap.size w w') := by
  obtain ⟨t0, h0⟩ : ∃ t, decide (p.length = 0) = t := ⟨_, rfl⟩
  obtain ⟨t1, h1⟩ : ∃ t, regionOk p = t := ⟨_, rfl⟩
  obtain ⟨t2, h2⟩ : ∃ t, spotOk x1 y1 d1 = t := ⟨_, rfl⟩
  obtain ⟨t3, h3⟩ : ∃ t, hasL p ⟨x1, y1, d1⟩ = t := ⟨_, rfl⟩
  have hv := hr.out
  unfold hasSpotR at hv
  rw [h1, h2, h3] at hv
  have hz : t0 = true → t3 = false := fun e => by
    rw [← h3]
    rw [e, decide_eq_true_eq] at h0
    rw [List.length_eq_zero_iff.1 h0]; rfl
  have H0 := Lib.hid h0
  have H1 := Lib.hid h1
  have H2 := Lib.hid h2
  have HC : t1 = true → t2 = true → Hid (∀ W, R3 99 W Ap cp p → Calls Tryz.prog 67 #[.agg #[.slice Ap p.length cp], .agg #[.int .i64 x1, .int .i64 y1, .int .i64 d1]] W fun e w' => e = .returned (.bool t3) ∧ Below W.heap.size W w') := fun e1 e2 => Lib.hid (fun W RW => holds_eq (s := ⟨x1, y1, d1⟩) (region_good (h1.trans e1)).1 (h2.trans e2) RW (by have := (region_good (h1.trans e1)).2; omega) (Lib.hid h3))
  clear hr
  have hc : (v = false ∧ (t0 = true ∨ (t0 = false ∧ t2 = false) ∨ (t0 = false ∧ t2 = true ∧ t1 = false))) ∨ (t0 = false ∧ t2 = true ∧ t1 = true ∧ t3 = v) := by
    rw [← hv]
    cases t0 <;> cases t1 <;> cases t2 <;> cases t3 <;> simp at hz ⊢
  clear h0 h1 h2 h3 hz hv
  rcases hc with ⟨rfl, rfl | ⟨rfl, rfl⟩ | ⟨rfl, rfl, rfl⟩⟩ | ⟨rfl, rfl, rfl, rfl⟩
  · clear HC
    go_enter Tryz.func89, Tryz.ntmps89
    go_wp2_with (first | (go_at_call 101; (first | (with_reducible refine (calls_ov2 (IsVoid_eq H0)).mono ?_) | refine (calls_ov (IsVoid_eq H0)).mono ?_); rintro e w' ⟨rfl, x, rfl⟩) | (go_at_call 63; (first | (with_reducible refine (calls_ov2 (impl_SpotOk_eq H2.out S.x S.y S.d)).mono ?_) | refine (calls_ov (impl_SpotOk_eq H2.out S.x S.y S.d)).mono ?_); rintro e w' ⟨rfl, x, rfl⟩) | (go_at_call 64; (first | (with_reducible refine (calls_ov2 (impl_RegionOk_eq (Rp.below (by repeat (first | exact bR | refine bO ?_ | refine bA ?_ | refine bS ?_ | refine bD ?_ | refine bN ?_))) hlp H1)).mono ?_) | refine (calls_ov (impl_RegionOk_eq (Rp.below (by repeat (first | exact bR | refine bO ?_ | refine bA ?_ | refine bS ?_ | refine bD ?_ | refine bN ?_))) hlp H1)).mono ?_); rintro e w' ⟨rfl, x, rfl⟩))
    go_ret
    exact ⟨rfl, (by repeat (first | exact bR | refine bO ?_ | refine bA ?_ | refine bS ?_ | refine bD ?_ | refine bN ?_))⟩
  · clear HC
    go_enter Tryz.func89, Tryz.ntmps89
    go_wp2_with (first | (go_at_call 101; (first | (with_reducible refine (calls_ov2 (IsVoid_eq H0)).mono ?_) | refine (calls_ov (IsVoid_eq H0)).mono ?_); rintro e w' ⟨rfl, x, rfl⟩) | (go_at_call 63; (first | (with_reducible refine (calls_ov2 (impl_SpotOk_eq H2.out S.x S.y S.d)).mono ?_) | refine (calls_ov (impl_SpotOk_eq H2.out S.x S.y S.d)).mono ?_); rintro e w' ⟨rfl, x, rfl⟩) | (go_at_call 64; (first | (with_reducible refine (calls_ov2 (impl_RegionOk_eq (Rp.below (by repeat (first | exact bR | refine bO ?_ | refine bA ?_ | refine bS ?_ | refine bD ?_ | refine bN ?_))) hlp H1)).mono ?_) | refine (calls_ov (impl_RegionOk_eq (Rp.below (by repeat (first | exact bR | refine bO ?_ | refine bA ?_ | refine bS ?_ | refine bD ?_ | refine bN ?_))) hlp H1)).mono ?_); rintro e w' ⟨rfl, x, rfl⟩))
    go_ret
    exact ⟨rfl, (by repeat (first | exact bR | refine bO ?_ | refine bA ?_ | refine bS ?_ | refine bD ?_ | refine bN ?_))⟩
  · clear HC
    go_enter Tryz.func89, Tryz.ntmps89
    go_wp2_with (first | (go_at_call 101; (first | (with_reducible refine (calls_ov2 (IsVoid_eq H0)).mono ?_) | refine (calls_ov (IsVoid_eq H0)).mono ?_); rintro e w' ⟨rfl, x, rfl⟩) | (go_at_call 63; (first | (with_reducible refine (calls_ov2 (impl_SpotOk_eq H2.out S.x S.y S.d)).mono ?_) | refine (calls_ov (impl_SpotOk_eq H2.out S.x S.y S.d)).mono ?_); rintro e w' ⟨rfl, x, rfl⟩) | (go_at_call 64; (first | (with_reducible refine (calls_ov2 (impl_RegionOk_eq (Rp.below (by repeat (first | exact bR | refine bO ?_ | refine bA ?_ | refine bS ?_ | refine bD ?_ | refine bN ?_))) hlp H1)).mono ?_) | refine (calls_ov (impl_RegionOk_eq (Rp.below (by repeat (first | exact bR | refine bO ?_ | refine bA ?_ | refine bS ?_ | refine bD ?_ | refine bN ?_))) hlp H1)).mono ?_); rintro e w' ⟨rfl, x, rfl⟩))
    go_ret
    exact ⟨rfl, (by repeat (first | exact bR | refine bO ?_ | refine bA ?_ | refine bS ?_ | refine bD ?_ | refine bN ?_))⟩
  · replace HC := HC rfl rfl
    go_enter Tryz.func89, Tryz.ntmps89
    go_wp2_with (first | (go_at_call 101; (first | (with_reducible refine (calls_ov2 (IsVoid_eq H0)).mono ?_) | refine (calls_ov (IsVoid_eq H0)).mono ?_); rintro e w' ⟨rfl, x, rfl⟩) | (go_at_call 63; (first | (with_reducible refine (calls_ov2 (impl_SpotOk_eq H2.out S.x S.y S.d)).mono ?_) | refine (calls_ov (impl_SpotOk_eq H2.out S.x S.y S.d)).mono ?_); rintro e w' ⟨rfl, x, rfl⟩) | (go_at_call 64; (first | (with_reducible refine (calls_ov2 (impl_RegionOk_eq (Rp.below (by repeat (first | exact bR | refine bO ?_ | refine bA ?_ | refine bS ?_ | refine bD ?_ | refine bN ?_))) hlp H1)).mono ?_) | refine (calls_ov (impl_RegionOk_eq (Rp.below (by repeat (first | exact bR | refine bO ?_ | refine bA ?_ | refine bS ?_ | refine bD ?_ | refine bN ?_))) hlp H1)).mono ?_); rintro e w' ⟨rfl, x, rfl⟩) | (go_at_call 67; (first | (with_reducible refine (calls_ov2 (HC.out _ (by exact Rp.below (by repeat (first | exact bR | refine bO ?_ | refine bA ?_ | refine bS ?_ | refine bD ?_ | refine bN ?_))))).mono ?_) | refine (calls_ov (HC.out _ (by exact Rp.below (by repeat (first | exact bR | refine bO ?_ | refine bA ?_ | refine bS ?_ | refine bD ?_ | refine bN ?_))))).mono ?_); rintro e w' ⟨rfl, x, rfl⟩))
    go_ret
    exact ⟨rfl, (by repeat (first | exact bR | refine bO ?_ | refine bA ?_ | refine bS ?_ | refine bD ?_ | refine bN ?_))⟩

set_option maxRecDepth 100000 in
set_option maxHeartbeats 8000000 in
theorem spec_HasSpot_eq {p : List H3} {Ap : Option Addr} {cp : Nat} {x1 y1 d1 : Int} {v : Bool} {w : World} (Rp : R3 99 w Ap cp p) (hlp : p.length ≤ 1000000000) (S : SpB x1 y1 d1) (hr : Hid (hasSpotR p x1 y1 d1 = v)) :
    Calls Tryz.prog 88 #[.agg #[.slice Ap p.length cp], .agg #[.int .i64 x1, .int .i64 y1, .int .i64 d1]] w (fun e w' => e = .returned (.bool v) ∧ Below w.heap.size w w') := by
  obtain ⟨t0, h0⟩ : ∃ t, decide (p.length = 0) = t := ⟨_, rfl⟩
  obtain ⟨t1, h1⟩ : ∃ t, regionOk p = t := ⟨_, rfl⟩
  obtain ⟨t2, h2⟩ : ∃ t, spotOk x1 y1 d1 = t := ⟨_, rfl⟩
  obtain ⟨t3, h3⟩ : ∃ t, hasL p ⟨x1, y1, d1⟩ = t := ⟨_, rfl⟩
  have hv := hr.out
  unfold hasSpotR at hv
  rw [h1, h2, h3] at hv
  have hz : t0 = true → t3 = false := fun e => by
    rw [← h3]
    rw [e, decide_eq_true_eq] at h0
    rw [List.length_eq_zero_iff.1 h0]; rfl
  have H0 := Lib.hid h0
  have H1 := Lib.hid h1
  have H2 := Lib.hid h2
  have HC : t1 = true → t2 = true → Hid (∀ W, R3 99 W Ap cp p → Calls Tryz.prog 59 #[.agg #[.slice Ap p.length cp], .agg #[.int .i64 x1, .int .i64 y1, .int .i64 d1]] W fun e w' => e = .returned (.bool t3) ∧ Below W.heap.size W w') := fun e1 e2 => Lib.hid (fun W RW => l05Has_eq (s := ⟨x1, y1, d1⟩) (region_good (h1.trans e1)).1 (h2.trans e2) RW (by have := (region_good (h1.trans e1)).2; omega) (Lib.hid h3))
  clear hr
  have hc : (v = false ∧ (t1 = false ∨ (t1 = true ∧ t2 = false))) ∨ (t1 = true ∧ t2 = true ∧ t3 = v) := by
    rw [← hv]
    cases t1 <;> cases t2 <;> cases t3 <;> simp
  clear h0 h1 h2 h3 hz hv
  rcases hc with ⟨rfl, rfl | ⟨rfl, rfl⟩⟩ | ⟨rfl, rfl, rfl⟩
  · clear HC
    go_enter Tryz.func88, Tryz.ntmps88
    go_wp2_with (first | (go_at_call 55; (first | (with_reducible refine (calls_ov2 (spec_SpotOk_eq H2.out S.x S.y S.d)).mono ?_) | refine (calls_ov (spec_SpotOk_eq H2.out S.x S.y S.d)).mono ?_); rintro e w' ⟨rfl, x, rfl⟩) | (go_at_call 56; (first | (with_reducible refine (calls_ov2 (spec_RegionOk_eq (Rp.below (by repeat (first | exact bR | refine bO ?_ | refine bA ?_ | refine bS ?_ | refine bD ?_ | refine bN ?_))) hlp H1)).mono ?_) | refine (calls_ov (spec_RegionOk_eq (Rp.below (by repeat (first | exact bR | refine bO ?_ | refine bA ?_ | refine bS ?_ | refine bD ?_ | refine bN ?_))) hlp H1)).mono ?_); rintro e w' ⟨rfl, x, rfl⟩))
    go_ret
    exact ⟨rfl, (by repeat (first | exact bR | refine bO ?_ | refine bA ?_ | refine bS ?_ | refine bD ?_ | refine bN ?_))⟩
  · clear HC
    go_enter Tryz.func88, Tryz.ntmps88
    go_wp2_with (first | (go_at_call 55; (first | (with_reducible refine (calls_ov2 (spec_SpotOk_eq H2.out S.x S.y S.d)).mono ?_) | refine (calls_ov (spec_SpotOk_eq H2.out S.x S.y S.d)).mono ?_); rintro e w' ⟨rfl, x, rfl⟩) | (go_at_call 56; (first | (with_reducible refine (calls_ov2 (spec_RegionOk_eq (Rp.below (by repeat (first | exact bR | refine bO ?_ | refine bA ?_ | refine bS ?_ | refine bD ?_ | refine bN ?_))) hlp H1)).mono ?_) | refine (calls_ov (spec_RegionOk_eq (Rp.below (by repeat (first | exact bR | refine bO ?_ | refine bA ?_ | refine bS ?_ | refine bD ?_ | refine bN ?_))) hlp H1)).mono ?_); rintro e w' ⟨rfl, x, rfl⟩))
    go_ret
    exact ⟨rfl, (by repeat (first | exact bR | refine bO ?_ | refine bA ?_ | refine bS ?_ | refine bD ?_ | refine bN ?_))⟩
  · replace HC := HC rfl rfl
    go_enter Tryz.func88, Tryz.ntmps88
    go_wp2_with (first | (go_at_call 55; (first | (with_reducible refine (calls_ov2 (spec_SpotOk_eq H2.out S.x S.y S.d)).mono ?_) | refine (calls_ov (spec_SpotOk_eq H2.out S.x S.y S.d)).mono ?_); rintro e w' ⟨rfl, x, rfl⟩) | (go_at_call 56; (first | (with_reducible refine (calls_ov2 (spec_RegionOk_eq (Rp.below (by repeat (first | exact bR | refine bO ?_ | refine bA ?_ | refine bS ?_ | refine bD ?_ | refine bN ?_))) hlp H1)).mono ?_) | refine (calls_ov (spec_RegionOk_eq (Rp.below (by repeat (first | exact bR | refine bO ?_ | refine bA ?_ | refine bS ?_ | refine bD ?_ | refine bN ?_))) hlp H1)).mono ?_); rintro e w' ⟨rfl, x, rfl⟩) | (go_at_call 59; (first | (with_reducible refine (calls_ov2 (HC.out _ (by exact Rp.below (by repeat (first | exact bR | refine bO ?_ | refine bA ?_ | refine bS ?_ | refine bD ?_ | refine bN ?_))))).mono ?_) | refine (calls_ov (HC.out _ (by exact Rp.below (by repeat (first | exact bR | refine bO ?_ | refine bA ?_ | refine bS ?_ | refine bD ?_ | refine bN ?_))))).mono ?_); rintro e w' ⟨rfl, x, rfl⟩))
    go_ret
    exact ⟨rfl, (by repeat (first | exact bR | refine bO ?_ | refine bA ?_ | refine bS ?_ | refine bD ?_ | refine bN ?_))⟩

set_option maxRecDepth 100000 in
set_option maxHeartbeats 8000000 in
theorem impl_CanBeKept_eq {r : RoomV} {Ar1 Ar2 Ar3 : Option Addr} {cr1 cr2 cr3 : Nat} {x1 y1 d1 : Int} {w : World} {v : Bool} (Rr : RM w r Ar1 Ar2 cr2 Ar3 cr3) (hsr : r.Short) (hS : SpB x1 y1 d1) (hr : Hid (canR r x1 y1 d1 = v)) :
    Calls Tryz.prog 43 #[.agg #[.slice Ar1 r.m.length cr1, .int .i64 r.q, .int .i64 r.bx, .int .i64 r.by_, .int .i64 r.lo, .int .i64 r.hi, .slice Ar2 r.ns.length cr2, .slice Ar3 r.ls.length cr3], .agg #[.int .i64 x1, .int .i64 y1, .int .i64 d1]] w (fun e w' => e = .returned (.bool v) ∧ Below w.heap.size w w') := by
  have hk := hr.out
  unfold canR at hk
  clear hr
  obtain ⟨⟨p, t⟩, hx⟩ : ∃ s, keptR r = s := ⟨_, rfl⟩
  rw [hx] at hk
  have HX := Lib.hid hx
  have lp := keptR_short hx
  clear hx
  cases t with
  | false =>
    obtain rfl : false = v := hk
    go_enter Tryz.func43, Tryz.ntmps43
    go_wp2_with fail
    obtain ⟨V, hV⟩ : ∃ V, ((w.alloc (.cells #[.slice Ar1 r.m.length cr1, .int .i64 r.q, .int .i64 r.bx, .int .i64 r.by_, .int .i64 r.lo, .int .i64 r.hi, .slice Ar2 r.ns.length cr2, .slice Ar3 r.ls.length cr3] 39)).alloc (.cells #[.int .i64 x1, .int .i64 y1, .int .i64 d1] 41)) = V := ⟨_, rfl⟩
    have TV : Below w.heap.size w V := by rw [← hV]; exact (by repeat (first | exact bR | refine bO ?_ | refine bA ?_ | refine bS ?_ | refine bD ?_ | refine bN ?_))
    have X0 : V.heap[w.heap.size]? = some (.cells #[.slice Ar1 r.m.length cr1, .int .i64 r.q, .int .i64 r.bx, .int .i64 r.by_, .int .i64 r.lo, .int .i64 r.hi, .slice Ar2 r.ns.length cr2, .slice Ar3 r.ls.length cr3] 39 (0, 0)) := by rw [← hV]; exact ((heap_old_at (by first | (simp; done) | (simp <;> omega))).trans (heap_new_at (by first | (simp; done) | (simp <;> omega)) rfl))
    have X1 : V.heap[w.heap.size + 1]? = some (.cells #[.int .i64 x1, .int .i64 y1, .int .i64 d1] 41 (0, 0)) := by rw [← hV]; exact (heap_new_at (by first | (simp; done) | (simp <;> omega)) rfl)
    rw [hV]
    clear hV
    have hbb1 : w.heap.size ≤ w.heap.size + 1 := by omega
    generalize w.heap.size + 1 = ba1 at X1 hbb1 ⊢
    obtain ⟨W0, hW⟩ : ∃ W0, W0 = V := ⟨_, rfl⟩
    rw [← hW]
    have T : Below V.heap.size V W0 := by rw [hW]; exact Below.refl _ _
    clear hW
    have Br := box_below (Lib.hid X0) T
    clear X0
    have Bs := box_below (Lib.hid X1) T
    clear X1
    have s0 : w.heap.size ≤ V.heap.size := TV.size
    obtain ⟨ba0, hba0⟩ : ∃ b, w.heap.size = b := ⟨_, rfl⟩
    rw [hba0] at Br
    try rw [hba0]
    have Sr := Rr.below (TV.trans (T.mono s0))
    refine (impl_KeptRegion_eq (Sr.below (by repeat (first | exact bR | refine bO ?_ | refine bA ?_ | refine bS ?_ | refine bD ?_ | refine bN ?_))) hsr HX).mono ?_
    rintro e W1 ⟨ap, dp, rfl, Xp, hb⟩
    have K : Below W0.heap.size W0 W1 := Below.trans (by repeat (first | exact bR | refine bO ?_ | refine bA ?_ | refine bS ?_ | refine bD ?_ | refine bN ?_)) (hb.mono (by first | exact Nat.le_refl _ | simp [ov_size]))
    replace Xp := Xp.weak (B' := V.heap.size) (by have := T.size; (try simp [ov_size]); omega)
    clear hb
    replace T := T.trans (K.mono T.size)
    replace Br := box_below Br K
    replace Bs := box_below Bs K
    clear K Sr
    have Sr := Rr.below (TV.trans (T.mono s0))
    obtain ⟨Brc0, Brc1, Brc2, Brc3, Brc4, Brc5, Brc6, Brc7, Brl⟩ := cb8 Br
    obtain ⟨Bsc0, Bsc1, Bsc2, Bsl⟩ := cb3 Bs
    go_wp2
    go_ret
    exact ⟨rfl, (by repeat (first | exact TV.trans (T.mono s0) | refine bO ?_ | refine bA ?_ | refine bS ?_ | refine bD ?_ | refine bN ?_))⟩
  | true =>
    have HH : Hid (hasSpotR p x1 y1 d1 = v) := Lib.hid hk
    clear hk
    go_enter Tryz.func43, Tryz.ntmps43
    go_wp2_with fail
    obtain ⟨V, hV⟩ : ∃ V, ((w.alloc (.cells #[.slice Ar1 r.m.length cr1, .int .i64 r.q, .int .i64 r.bx, .int .i64 r.by_, .int .i64 r.lo, .int .i64 r.hi, .slice Ar2 r.ns.length cr2, .slice Ar3 r.ls.length cr3] 39)).alloc (.cells #[.int .i64 x1, .int .i64 y1, .int .i64 d1] 41)) = V := ⟨_, rfl⟩
    have TV : Below w.heap.size w V := by rw [← hV]; exact (by repeat (first | exact bR | refine bO ?_ | refine bA ?_ | refine bS ?_ | refine bD ?_ | refine bN ?_))
    have X0 : V.heap[w.heap.size]? = some (.cells #[.slice Ar1 r.m.length cr1, .int .i64 r.q, .int .i64 r.bx, .int .i64 r.by_, .int .i64 r.lo, .int .i64 r.hi, .slice Ar2 r.ns.length cr2, .slice Ar3 r.ls.length cr3] 39 (0, 0)) := by rw [← hV]; exact ((heap_old_at (by first | (simp; done) | (simp <;> omega))).trans (heap_new_at (by first | (simp; done) | (simp <;> omega)) rfl))
    have X1 : V.heap[w.heap.size + 1]? = some (.cells #[.int .i64 x1, .int .i64 y1, .int .i64 d1] 41 (0, 0)) := by rw [← hV]; exact (heap_new_at (by first | (simp; done) | (simp <;> omega)) rfl)
    rw [hV]
    clear hV
    have hbb1 : w.heap.size ≤ w.heap.size + 1 := by omega
    generalize w.heap.size + 1 = ba1 at X1 hbb1 ⊢
    obtain ⟨W0, hW⟩ : ∃ W0, W0 = V := ⟨_, rfl⟩
    rw [← hW]
    have T : Below V.heap.size V W0 := by rw [hW]; exact Below.refl _ _
    clear hW
    have Br := box_below (Lib.hid X0) T
    clear X0
    have Bs := box_below (Lib.hid X1) T
    clear X1
    have s0 : w.heap.size ≤ V.heap.size := TV.size
    obtain ⟨ba0, hba0⟩ : ∃ b, w.heap.size = b := ⟨_, rfl⟩
    rw [hba0] at Br
    try rw [hba0]
    have Sr := Rr.below (TV.trans (T.mono s0))
    refine (impl_KeptRegion_eq (Sr.below (by repeat (first | exact bR | refine bO ?_ | refine bA ?_ | refine bS ?_ | refine bD ?_ | refine bN ?_))) hsr HX).mono ?_
    rintro e W2 ⟨ap, dp, rfl, Xp, hb⟩
    have K : Below W0.heap.size W0 W2 := Below.trans (by repeat (first | exact bR | refine bO ?_ | refine bA ?_ | refine bS ?_ | refine bD ?_ | refine bN ?_)) (hb.mono (by first | exact Nat.le_refl _ | simp [ov_size]))
    replace Xp := Xp.weak (B' := V.heap.size) (by have := T.size; (try simp [ov_size]); omega)
    clear hb
    replace T := T.trans (K.mono T.size)
    replace Br := box_below Br K
    replace Bs := box_below Bs K
    clear K Sr
    have Sr := Rr.below (TV.trans (T.mono s0))
    obtain ⟨Brc0, Brc1, Brc2, Brc3, Brc4, Brc5, Brc6, Brc7, Brl⟩ := cb8 Br
    obtain ⟨Bsc0, Bsc1, Bsc2, Bsl⟩ := cb3 Bs
    go_wp2_with (first | (go_at_call 89; (first | (with_reducible refine (calls_ov2 (impl_HasSpot_eq ((Xp.below (by repeat (first | exact bR | refine bO ?_ | refine bA ?_ | refine bS ?_ | refine bD ?_ | refine bN ?_))).r3) (by omega) hS HH)).mono ?_) | refine (calls_ov (impl_HasSpot_eq ((Xp.below (by repeat (first | exact bR | refine bO ?_ | refine bA ?_ | refine bS ?_ | refine bD ?_ | refine bN ?_))).r3) (by omega) hS HH)).mono ?_); rintro e w' ⟨rfl, x, rfl⟩))
    go_ret
    exact ⟨rfl, (by repeat (first | exact TV.trans (T.mono s0) | refine bO ?_ | refine bA ?_ | refine bS ?_ | refine bD ?_ | refine bN ?_))⟩

set_option maxRecDepth 100000 in
set_option maxHeartbeats 8000000 in
theorem spec_CanBeKept_eq {r : RoomV} {Ar1 Ar2 Ar3 : Option Addr} {cr1 cr2 cr3 : Nat} {x1 y1 d1 : Int} {w : World} {v : Bool} (Rr : RM w r Ar1 Ar2 cr2 Ar3 cr3) (hsr : r.Short) (hS : SpB x1 y1 d1) (hr : Hid (canR r x1 y1 d1 = v)) :
    Calls Tryz.prog 42 #[.agg #[.slice Ar1 r.m.length cr1, .int .i64 r.q, .int .i64 r.bx, .int .i64 r.by_, .int .i64 r.lo, .int .i64 r.hi, .slice Ar2 r.ns.length cr2, .slice Ar3 r.ls.length cr3], .agg #[.int .i64 x1, .int .i64 y1, .int .i64 d1]] w (fun e w' => e = .returned (.bool v) ∧ Below w.heap.size w w') := by
  have hk := hr.out
  unfold canR at hk
  clear hr
  obtain ⟨⟨p, t⟩, hx⟩ : ∃ s, keptR r = s := ⟨_, rfl⟩
  rw [hx] at hk
  have HX := Lib.hid hx
  have lp := keptR_short hx
  clear hx
  cases t with
  | false =>
    obtain rfl : false = v := hk
    go_enter Tryz.func42, Tryz.ntmps42
    go_wp2_with fail
    obtain ⟨V, hV⟩ : ∃ V, ((w.alloc (.cells #[.slice Ar1 r.m.length cr1, .int .i64 r.q, .int .i64 r.bx, .int .i64 r.by_, .int .i64 r.lo, .int .i64 r.hi, .slice Ar2 r.ns.length cr2, .slice Ar3 r.ls.length cr3] 39)).alloc (.cells #[.int .i64 x1, .int .i64 y1, .int .i64 d1] 41)) = V := ⟨_, rfl⟩
    have TV : Below w.heap.size w V := by rw [← hV]; exact (by repeat (first | exact bR | refine bO ?_ | refine bA ?_ | refine bS ?_ | refine bD ?_ | refine bN ?_))
    have X0 : V.heap[w.heap.size]? = some (.cells #[.slice Ar1 r.m.length cr1, .int .i64 r.q, .int .i64 r.bx, .int .i64 r.by_, .int .i64 r.lo, .int .i64 r.hi, .slice Ar2 r.ns.length cr2, .slice Ar3 r.ls.length cr3] 39 (0, 0)) := by rw [← hV]; exact ((heap_old_at (by first | (simp; done) | (simp <;> omega))).trans (heap_new_at (by first | (simp; done) | (simp <;> omega)) rfl))
    have X1 : V.heap[w.heap.size + 1]? = some (.cells #[.int .i64 x1, .int .i64 y1, .int .i64 d1] 41 (0, 0)) := by rw [← hV]; exact (heap_new_at (by first | (simp; done) | (simp <;> omega)) rfl)
    rw [hV]
    clear hV
    have hbb1 : w.heap.size ≤ w.heap.size + 1 := by omega
    generalize w.heap.size + 1 = ba1 at X1 hbb1 ⊢
    obtain ⟨W0, hW⟩ : ∃ W0, W0 = V := ⟨_, rfl⟩
    rw [← hW]
    have T : Below V.heap.size V W0 := by rw [hW]; exact Below.refl _ _
    clear hW
    have Br := box_below (Lib.hid X0) T
    clear X0
    have Bs := box_below (Lib.hid X1) T
    clear X1
    have s0 : w.heap.size ≤ V.heap.size := TV.size
    obtain ⟨ba0, hba0⟩ : ∃ b, w.heap.size = b := ⟨_, rfl⟩
    rw [hba0] at Br
    try rw [hba0]
    have Sr := Rr.below (TV.trans (T.mono s0))
    refine (spec_KeptRegion_eq (Sr.below (by repeat (first | exact bR | refine bO ?_ | refine bA ?_ | refine bS ?_ | refine bD ?_ | refine bN ?_))) hsr HX).mono ?_
    rintro e W1 ⟨ap, dp, rfl, Xp, hb⟩
    have K : Below W0.heap.size W0 W1 := Below.trans (by repeat (first | exact bR | refine bO ?_ | refine bA ?_ | refine bS ?_ | refine bD ?_ | refine bN ?_)) (hb.mono (by first | exact Nat.le_refl _ | simp [ov_size]))
    replace Xp := Xp.weak (B' := V.heap.size) (by have := T.size; (try simp [ov_size]); omega)
    clear hb
    replace T := T.trans (K.mono T.size)
    replace Br := box_below Br K
    replace Bs := box_below Bs K
    clear K Sr
    have Sr := Rr.below (TV.trans (T.mono s0))
    obtain ⟨Brc0, Brc1, Brc2, Brc3, Brc4, Brc5, Brc6, Brc7, Brl⟩ := cb8 Br
    obtain ⟨Bsc0, Bsc1, Bsc2, Bsl⟩ := cb3 Bs
    go_wp2
    go_ret
    exact ⟨rfl, (by repeat (first | exact TV.trans (T.mono s0) | refine bO ?_ | refine bA ?_ | refine bS ?_ | refine bD ?_ | refine bN ?_))⟩
  | true =>
    have HH : Hid (hasSpotR p x1 y1 d1 = v) := Lib.hid hk
    clear hk
    go_enter Tryz.func42, Tryz.ntmps42
    go_wp2_with fail
    obtain ⟨V, hV⟩ : ∃ V, ((w.alloc (.cells #[.slice Ar1 r.m.length cr1, .int .i64 r.q, .int .i64 r.bx, .int .i64 r.by_, .int .i64 r.lo, .int .i64 r.hi, .slice Ar2 r.ns.length cr2, .slice Ar3 r.ls.length cr3] 39)).alloc (.cells #[.int .i64 x1, .int .i64 y1, .int .i64 d1] 41)) = V := ⟨_, rfl⟩
    have TV : Below w.heap.size w V := by rw [← hV]; exact (by repeat (first | exact bR | refine bO ?_ | refine bA ?_ | refine bS ?_ | refine bD ?_ | refine bN ?_))
    have X0 : V.heap[w.heap.size]? = some (.cells #[.slice Ar1 r.m.length cr1, .int .i64 r.q, .int .i64 r.bx, .int .i64 r.by_, .int .i64 r.lo, .int .i64 r.hi, .slice Ar2 r.ns.length cr2, .slice Ar3 r.ls.length cr3] 39 (0, 0)) := by rw [← hV]; exact ((heap_old_at (by first | (simp; done) | (simp <;> omega))).trans (heap_new_at (by first | (simp; done) | (simp <;> omega)) rfl))
    have X1 : V.heap[w.heap.size + 1]? = some (.cells #[.int .i64 x1, .int .i64 y1, .int .i64 d1] 41 (0, 0)) := by rw [← hV]; exact (heap_new_at (by first | (simp; done) | (simp <;> omega)) rfl)
    rw [hV]
    clear hV
    have hbb1 : w.heap.size ≤ w.heap.size + 1 := by omega
    generalize w.heap.size + 1 = ba1 at X1 hbb1 ⊢
    obtain ⟨W0, hW⟩ : ∃ W0, W0 = V := ⟨_, rfl⟩
    rw [← hW]
    have T : Below V.heap.size V W0 := by rw [hW]; exact Below.refl _ _
    clear hW
    have Br := box_below (Lib.hid X0) T
    clear X0
    have Bs := box_below (Lib.hid X1) T
    clear X1
    have s0 : w.heap.size ≤ V.heap.size := TV.size
    obtain ⟨ba0, hba0⟩ : ∃ b, w.heap.size = b := ⟨_, rfl⟩
    rw [hba0] at Br
    try rw [hba0]
    have Sr := Rr.below (TV.trans (T.mono s0))
    refine (spec_KeptRegion_eq (Sr.below (by repeat (first | exact bR | refine bO ?_ | refine bA ?_ | refine bS ?_ | refine bD ?_ | refine bN ?_))) hsr HX).mono ?_
    rintro e W2 ⟨ap, dp, rfl, Xp, hb⟩
    have K : Below W0.heap.size W0 W2 := Below.trans (by repeat (first | exact bR | refine bO ?_ | refine bA ?_ | refine bS ?_ | refine bD ?_ | refine bN ?_)) (hb.mono (by first | exact Nat.le_refl _ | simp [ov_size]))
    replace Xp := Xp.weak (B' := V.heap.size) (by have := T.size; (try simp [ov_size]); omega)
    clear hb
    replace T := T.trans (K.mono T.size)
    replace Br := box_below Br K
    replace Bs := box_below Bs K
    clear K Sr
    have Sr := Rr.below (TV.trans (T.mono s0))
    obtain ⟨Brc0, Brc1, Brc2, Brc3, Brc4, Brc5, Brc6, Brc7, Brl⟩ := cb8 Br
    obtain ⟨Bsc0, Bsc1, Bsc2, Bsl⟩ := cb3 Bs
    go_wp2_with (first | (go_at_call 88; (first | (with_reducible refine (calls_ov2 (spec_HasSpot_eq ((Xp.below (by repeat (first | exact bR | refine bO ?_ | refine bA ?_ | refine bS ?_ | refine bD ?_ | refine bN ?_))).r3) (by omega) hS HH)).mono ?_) | refine (calls_ov (spec_HasSpot_eq ((Xp.below (by repeat (first | exact bR | refine bO ?_ | refine bA ?_ | refine bS ?_ | refine bD ?_ | refine bN ?_))).r3) (by omega) hS HH)).mono ?_); rintro e w' ⟨rfl, x, rfl⟩))
    go_ret
    exact ⟨rfl, (by repeat (first | exact TV.trans (T.mono s0) | refine bO ?_ | refine bA ?_ | refine bS ?_ | refine bD ?_ | refine bN ?_))⟩
end Go.Proofs.YtgdleimdenbnlaaGreat
