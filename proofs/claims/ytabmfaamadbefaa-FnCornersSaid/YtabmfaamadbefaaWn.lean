/- Contracts of within, IsWithin, CornersOf and IsCorner, of the program and of the reference. No condition but that lengths are ints. -/
import Derived.Test.YtabmfaamadbefaaHs
import Derived.Test.YtabmfaamadbefaaCg
set_option linter.unusedSimpArgs false
set_option linter.unusedVariables false
set_option linter.unusedSectionVars false
namespace Go.Proofs.Ytabmfaamadbefaa
open Go.RowKit

theorem within_false {cs qs : List H3} {k : Nat} (hk : k < cs.length) (h : hasL qs cs[k] = false) : cs.all (hasL qs) = false := by
  rw [List.all_eq_false]; exact ⟨_, List.getElem_mem hk, by rw [h]; simp⟩
set_option maxRecDepth 100000 in
set_option maxHeartbeats 4000000 in
theorem impl_within_eq {ps qs : List H3} {v : Bool} {A1 A2 : Option Addr} {c1 c2 : Nat} {w : World} (kp : regionOk ps = true) (kq : regionOk qs = true) (R1 : R3 36 w A1 c1 ps) (R2 : R3 36 w A2 c2 qs) (hv : Hid (withinL ps qs = v)) :
    Calls Try.prog 38 #[.agg #[.slice A1 ps.length c1], .agg #[.slice A2 qs.length c2]] w fun e w' => e = .returned (.bool v) ∧ Below w.heap.size w w' := by
  obtain ⟨G1, l1⟩ := region_good kp
  obtain ⟨G2, l2⟩ := region_good kq
  have ks := corners_spots kp
  have hcl := cornersL_length ps
  have HV := hv.out
  unfold withinL at HV
  have hz := Lib.hid (fun h : ps = [] => (by subst h; rfl : cornersL ps = []))
  obtain ⟨cs, hcs⟩ : ∃ cs, cornersL ps = cs := ⟨_, rfl⟩
  have HC := fun W A c (R : R3 36 W A c ps) => corners_any G1 R (by omega)
  rw [hcs] at ks hcl HV hz HC
  have KS := Lib.hid ks
  have HV2 := Lib.hid HV
  have HCC := Lib.hid HC
  clear hcs ks HV hv kp kq G1 HC
  go_enter Try.func38, Try.ntmps38
  go_wp2_with fail
  refine (HCC.out _ _ _ (by repeat (first | assumption | refine R3.ov ?_ _ | refine R3.alloc ?_ _))).mono ?_
  rintro e w1 ⟨A3, c3, rfl, RS, hb1⟩
  have T0 : Below w.heap.size w w1 := Below.trans (by repeat (first | exact bR | refine bO ?_ | refine bA ?_ | refine bS ?_ | refine bD ?_ | refine bN ?_)) (hb1.mono (by first | omega | (simp [ov_size] <;> omega)))
  have X2 := Lib.hid ((hb1.block (w.heap.size + 1) (by first | omega | (simp [ov_size] <;> omega))).trans (heap_new_at (r := some (.cells #[.slice A2 qs.length c2] 25 (0, 0))) (by simp) rfl))
  have RW := R2.below T0
  replace RS := RS.r3
  clear hb1 R1
  have t0 := T0.size
  generalize w.heap.size + 1 = b2 at X2 ⊢
  go_wp2
  go_loopw [10] (fun i wr => ∃ k : Nat, k ≤ ps.length ∧ i = .int .i64 k ∧ Hid ((cs.take k).all (hasL qs) = true) ∧ Below w1.heap.size w1 wr) (fun i _ => ps.length - (intOf i).toNat)
  case atStart => exact ⟨0, Nat.zero_le _, rfl, Lib.hid rfl, Below.refl _ _⟩
  case round =>
    obtain ⟨k, hk, rfl, HA, hb⟩ := hrel
    have hbs := hb.size
    have hbw : Below w.heap.size w wr := T0.trans (hb.mono t0)
    have X3 := box_below X2 hb
    have x1 := cell_blk (j := 0) (v := .slice A2 qs.length c2) X3.out rfl
    have lx := (Array.getElem?_eq_some_iff.1 X3.out).1
    by_cases hlt : k < ps.length
    · have hlc : k < cs.length := by omega
      obtain ⟨g0, rfl, hg0, z0, z1, z2⟩ := (RS.below hb).at_ hlc
      have kc := KS.out _ (List.getElem_mem hlc)
      obtain ⟨u, hu⟩ : ∃ u, hasL qs cs[k] = u := ⟨_, rfl⟩
      have HU := Lib.hid hu
      have HT := Lib.hid (all_take_succ (hasL qs) cs k hlc)
      have RQ := RW.below hb
      cases u with
      | false =>
        obtain rfl : v = false := by rw [← HV2.out]; exact within_false hlc hu
        clear hu
        go_wp2_with ((go_at_call 41; (first | (with_reducible refine (calls_ov2 (holds_eq G2 kc (by repeat (first | assumption | refine R3.ov ?_ _ | refine R3.alloc ?_ _)) (by omega) HU)).mono ?_) | refine (calls_ov (holds_eq G2 kc (by repeat (first | assumption | refine R3.ov ?_ _ | refine R3.alloc ?_ _)) (by omega) HU)).mono ?_); rintro e w' ⟨rfl, x, rfl⟩))
        go_ret
        exact ⟨rfl, (by repeat (first | exact hbw | refine bO ?_ | refine bA ?_ | refine bS ?_ | refine bD ?_ | refine bN ?_))⟩
      | true =>
        have HN : Hid ((cs.take (k + 1)).all (hasL qs) = true) := Lib.hid (by rw [HT.out, HA.out, hu]; rfl)
        clear hu
        go_wp2_with ((go_at_call 41; (first | (with_reducible refine (calls_ov2 (holds_eq G2 kc (by repeat (first | assumption | refine R3.ov ?_ _ | refine R3.alloc ?_ _)) (by omega) HU)).mono ?_) | refine (calls_ov (holds_eq G2 kc (by repeat (first | assumption | refine R3.ov ?_ _ | refine R3.alloc ?_ _)) (by omega) HU)).mono ?_); rintro e w' ⟨rfl, x, rfl⟩))
        go_roundw
        case rel => exact ⟨k + 1, by omega, by go_num, HN, (by repeat (first | exact hb | refine bO ?_ | refine bA ?_ | refine bS ?_ | refine bD ?_ | refine bN ?_))⟩
        case measure => simp [intOf] <;> omega
    · obtain rfl : k = ps.length := by omega
      obtain rfl : v = true := by rw [← HV2.out, ← HA.out, ← hcl, List.take_length]
      go_wp2
      go_ret
      exact ⟨rfl, (by repeat (first | exact hbw | refine bO ?_ | refine bA ?_ | refine bS ?_ | refine bD ?_ | refine bN ?_))⟩
set_option maxRecDepth 100000 in
theorem impl_IsWithin_eq {ps qs : List H3} {v : Bool} {A1 A2 : Option Addr} {c1 c2 : Nat} {w : World} (R1 : R3 36 w A1 c1 ps) (l1 : ps.length ≤ 1000000000) (R2 : R3 36 w A2 c2 qs) (l2 : qs.length ≤ 1000000000) (hv : Hid (isWithinR ps qs = v)) :
    Calls Try.prog 11 #[.agg #[.slice A1 ps.length c1], .agg #[.slice A2 qs.length c2]] w fun e w' => e = .returned (.bool v) ∧ Below w.heap.size w w' := by
  have h := hv.out
  unfold isWithinR at h
  rcases chain2 (regionOk ps) (regionOk qs) with h1 | ⟨h1, h2⟩ | ⟨h1, h2⟩
  · rw [h1] at h
    obtain rfl : false = v := h
    have H1 := Lib.hid h1
    clear h1 hv
    go_enter Try.func11, Try.ntmps11
    go_wp2_with ((go_at_call 30; (first | (with_reducible refine (calls_ov2 (impl_RegionOk_eq (by repeat (first | assumption | refine R3.ov ?_ _ | refine R3.alloc ?_ _)) l1 H1)).mono ?_) | refine (calls_ov (impl_RegionOk_eq (by repeat (first | assumption | refine R3.ov ?_ _ | refine R3.alloc ?_ _)) l1 H1)).mono ?_); rintro e w' ⟨rfl, x, rfl⟩))
    go_ret
    exact ⟨rfl, (by repeat (first | exact bR | refine bO ?_ | refine bA ?_ | refine bS ?_ | refine bD ?_ | refine bN ?_))⟩
  · rw [h1, h2] at h
    obtain rfl : false = v := h
    have H1 := Lib.hid h1
    have H2 := Lib.hid h2
    clear h1 h2 hv
    go_enter Try.func11, Try.ntmps11
    go_wp2_with (first | (go_at_call 30; (first | (with_reducible refine (calls_ov2 (impl_RegionOk_eq (by first | exact (R1.below (by repeat (first | exact bR | refine bO ?_ | refine bA ?_ | refine bS ?_ | refine bD ?_ | refine bN ?_))) | exact (R2.below (by repeat (first | exact bR | refine bO ?_ | refine bA ?_ | refine bS ?_ | refine bD ?_ | refine bN ?_)))) (by first | exact l1 | exact l2) (by first | exact H1 | exact H2))).mono ?_) | refine (calls_ov (impl_RegionOk_eq (by first | exact (R1.below (by repeat (first | exact bR | refine bO ?_ | refine bA ?_ | refine bS ?_ | refine bD ?_ | refine bN ?_))) | exact (R2.below (by repeat (first | exact bR | refine bO ?_ | refine bA ?_ | refine bS ?_ | refine bD ?_ | refine bN ?_)))) (by first | exact l1 | exact l2) (by first | exact H1 | exact H2))).mono ?_); rintro e w' ⟨rfl, x, rfl⟩))
    go_ret
    exact ⟨rfl, (by repeat (first | exact bR | refine bO ?_ | refine bA ?_ | refine bS ?_ | refine bD ?_ | refine bN ?_))⟩
  · rw [h1, h2] at h
    have HW : Hid (withinL ps qs = v) := Lib.hid h
    have H1 := Lib.hid h1
    have H2 := Lib.hid h2
    have HC := Lib.hid (fun W (R1 : R3 36 W A1 c1 ps) (R2 : R3 36 W A2 c2 qs) => impl_within_eq h1 h2 R1 R2 HW)
    clear h h1 h2 hv
    go_enter Try.func11, Try.ntmps11
    go_wp2_with (first | (go_at_call 30; (first | (with_reducible refine (calls_ov2 (impl_RegionOk_eq (by first | exact (R1.below (by repeat (first | exact bR | refine bO ?_ | refine bA ?_ | refine bS ?_ | refine bD ?_ | refine bN ?_))) | exact (R2.below (by repeat (first | exact bR | refine bO ?_ | refine bA ?_ | refine bS ?_ | refine bD ?_ | refine bN ?_)))) (by first | exact l1 | exact l2) (by first | exact H1 | exact H2))).mono ?_) | refine (calls_ov (impl_RegionOk_eq (by first | exact (R1.below (by repeat (first | exact bR | refine bO ?_ | refine bA ?_ | refine bS ?_ | refine bD ?_ | refine bN ?_))) | exact (R2.below (by repeat (first | exact bR | refine bO ?_ | refine bA ?_ | refine bS ?_ | refine bD ?_ | refine bN ?_)))) (by first | exact l1 | exact l2) (by first | exact H1 | exact H2))).mono ?_); rintro e w' ⟨rfl, x, rfl⟩) | (go_at_call 38; (first | (with_reducible refine (calls_ov2 (HC.out _ (by exact (R1.below (by repeat (first | exact bR | refine bO ?_ | refine bA ?_ | refine bS ?_ | refine bD ?_ | refine bN ?_)))) (by exact (R2.below (by repeat (first | exact bR | refine bO ?_ | refine bA ?_ | refine bS ?_ | refine bD ?_ | refine bN ?_)))))).mono ?_) | refine (calls_ov (HC.out _ (by exact (R1.below (by repeat (first | exact bR | refine bO ?_ | refine bA ?_ | refine bS ?_ | refine bD ?_ | refine bN ?_)))) (by exact (R2.below (by repeat (first | exact bR | refine bO ?_ | refine bA ?_ | refine bS ?_ | refine bD ?_ | refine bN ?_)))))).mono ?_); rintro e w' ⟨rfl, x, rfl⟩))
    go_ret
    exact ⟨rfl, (by repeat (first | exact bR | refine bO ?_ | refine bA ?_ | refine bS ?_ | refine bD ?_ | refine bN ?_))⟩

set_option maxRecDepth 100000 in
theorem impl_CornersOf_eq {hs out : List H3} {A : Option Addr} {c : Nat} {w : World} (R : R3 36 w A c hs) (hl : hs.length ≤ 1000000000) (hr : Hid (cornersR hs = out)) :
    Calls Try.prog 22 #[.agg #[.slice A hs.length c]] w (SpotsPost w out.length out) := by
  have h := hr.out
  unfold cornersR at h
  obtain ⟨rk, hrk⟩ : ∃ v, regionOk hs = v := ⟨_, rfl⟩
  rw [hrk] at h
  have HRK := Lib.hid hrk
  cases rk with
  | false =>
    rw [if_neg (by simp)] at h
    subst h
    clear hrk hr
    go_enter Try.func22, Try.ntmps22
    go_wp2_with (first | (go_at_call 30; (first | (with_reducible refine (calls_ov2 (impl_RegionOk_eq (by repeat (first | assumption | refine R3.ov ?_ _ | refine R3.alloc ?_ _)) hl HRK)).mono ?_) | refine (calls_ov (impl_RegionOk_eq (by repeat (first | assumption | refine R3.ov ?_ _ | refine R3.alloc ?_ _)) hl HRK)).mono ?_); rintro e w' ⟨rfl, x, rfl⟩))
    go_ret
    exact ⟨none, 0, rfl, RB.nil _ _ _, (by repeat (first | exact bR | refine bO ?_ | refine bA ?_ | refine bS ?_ | refine bD ?_ | refine bN ?_))⟩
  | true =>
    rw [if_pos rfl] at h
    obtain ⟨G, l1⟩ := region_good hrk
    have hcl := cornersL_length hs
    have HC := fun W A c (R : R3 36 W A c hs) => corners_any G R (by omega)
    rw [h] at hcl HC
    have HCC := Lib.hid HC
    clear hrk hr h HC
    go_enter Try.func22, Try.ntmps22
    go_wp2_with (first | (go_at_call 30; (first | (with_reducible refine (calls_ov2 (impl_RegionOk_eq (by repeat (first | assumption | refine R3.ov ?_ _ | refine R3.alloc ?_ _)) (by omega) HRK)).mono ?_) | refine (calls_ov (impl_RegionOk_eq (by repeat (first | assumption | refine R3.ov ?_ _ | refine R3.alloc ?_ _)) (by omega) HRK)).mono ?_); rintro e w' ⟨rfl, x, rfl⟩))
    refine (HCC.out _ _ _ (R.below (by repeat (first | exact bR | refine bO ?_ | refine bA ?_ | refine bS ?_ | refine bD ?_ | refine bN ?_)))).mono ?_
    rintro e w1 ⟨A3, c3, rfl, RS, hb1⟩
    have T0 : Below w.heap.size w w1 := Below.trans (by repeat (first | exact bR | refine bO ?_ | refine bA ?_ | refine bS ?_ | refine bD ?_ | refine bN ?_)) (hb1.mono (by first | omega | (simp [ov_size] <;> omega)))
    replace RS := RS.weak (B' := w.heap.size) (by first | omega | (simp [ov_size] <;> omega))
    clear hb1
    go_wp2
    go_ret
    exact ⟨A3, c3, by rw [hcl]; rfl, RS, T0⟩

@[go_sem] theorem run_eql_spot (a b c a' b' c' : Int) (w : World) : (binOp .eql 31 (.agg #[.int .i64 a, .int .i64 b, .int .i64 c]) (.agg #[.int .i64 a', .int .i64 b', .int .i64 c'])).run Try.prog w = .ok (.bool (decide (a = a' ∧ b = b' ∧ c = c'))) w := by
  rw [run_eql_struct, run_equal_spot]; rfl
def isCornerR (hs : List H3) (s : H3) : Bool := decide (s ∈ cornersR hs)
theorem mem_take_succ {xs : List H3} {s : H3} {k : Nat} (hk : k < xs.length) (h : s ∉ xs.take k) (hn : ¬ xs[k] = s) : s ∉ xs.take (k + 1) := by
  rw [List.take_succ_eq_append_getElem hk]
  intro hm
  rcases List.mem_append.1 hm with h1 | h1
  · exact h h1
  · simp at h1; exact hn h1.symm
theorem h3_parts (x s : H3) : (x = s ∧ x.a = s.a ∧ x.b = s.b ∧ x.c = s.c) ∨ (x ≠ s ∧ (¬ x.a = s.a ∨ (x.a = s.a ∧ ¬ x.b = s.b) ∨ (x.a = s.a ∧ x.b = s.b ∧ ¬ x.c = s.c))) := by
  have := @h3_eq x s
  by_cases e1 : x.a = s.a <;> by_cases e2 : x.b = s.b <;> by_cases e3 : x.c = s.c <;> simp_all

set_option maxRecDepth 100000 in
set_option maxHeartbeats 4000000 in
theorem Index_any {xs : List H3} {x y d : Int} {A : Option Addr} {c : Nat} {w : World} (R : R3 31 w A c xs) (hl : xs.length ≤ 1000000000) :
    Calls Try.prog 78 #[.slice A xs.length c, .agg #[.int .i64 x, .int .i64 y, .int .i64 d]] w fun e w' =>
      (∃ i : Int, e = .returned (.int .i64 i) ∧ (0 ≤ i ↔ ⟨x, y, d⟩ ∈ xs) ∧ -1 ≤ i ∧ i ≤ 1000000000) ∧ Below w.heap.size w w' := by
  go_enter Try.func78, Try.ntmps78
  go_wp2
  obtain ⟨W0, hW⟩ : ∃ W0, W0 = w.alloc (.cells #[.int .i64 x, .int .i64 y, .int .i64 d] 31) := ⟨_, rfl⟩
  rw [← hW]
  have T0 : Below w.heap.size w W0 := by rw [hW]; exact (by repeat (first | exact bR | refine bO ?_ | refine bA ?_ | refine bS ?_ | refine bD ?_ | refine bN ?_))
  have X2 := Lib.hid (show W0.heap[w.heap.size]? = some (.cells #[.int .i64 x, .int .i64 y, .int .i64 d] 31 (0, 0)) by rw [hW]; exact heap_alloc_new _ _)
  have s0 : W0.heap.size = w.heap.size + 1 := by rw [hW]; simp
  (try rw [← s0])
  clear hW s0
  have t0 := T0.size
  have RW := R.below T0
  obtain ⟨b2, hb2⟩ : ∃ b, w.heap.size = b := ⟨_, rfl⟩
  rw [hb2] at X2 ⊢
  go_loopw [8] (fun i wr => ∃ k : Nat, k ≤ xs.length ∧ i = .int .i64 k ∧ Hid (⟨x, y, d⟩ ∉ xs.take k) ∧ Below W0.heap.size W0 wr) (fun i _ => xs.length - (intOf i).toNat)
  case atStart => exact ⟨0, Nat.zero_le _, rfl, Lib.hid (by simp), Below.refl _ _⟩
  case round =>
    obtain ⟨k, hk, rfl, HA, hb⟩ := hrel
    have hbs := hb.size
    have hbx : Below w.heap.size w wr := T0.trans (hb.mono t0)
    have hbw : Below b2 w wr := by rw [← hb2]; exact hbx
    have X3 := box_below X2 hb
    have q0 := cell_blk (j := 0) (v := .int .i64 x) X3.out rfl
    have q1 := cell_blk (j := 1) (v := .int .i64 y) X3.out rfl
    have q2 := cell_blk (j := 2) (v := .int .i64 d) X3.out rfl
    have lx := (Array.getElem?_eq_some_iff.1 X3.out).1
    by_cases hlt : k < xs.length
    · obtain ⟨g0, rfl, hg0, z0, z1, z2⟩ := (RW.below hb).at_ hlt
      rcases h3_parts ⟨x, y, d⟩ xs[k] with ⟨he, e1, e2, e3⟩ | ⟨hne, e⟩
      · have HM := Lib.hid (show (0 ≤ (k : Int) ↔ (⟨x, y, d⟩ : H3) ∈ xs) from ⟨fun _ => he ▸ List.getElem_mem hlt, fun _ => by omega⟩)
        simp only at e1 e2 e3
        rw [← e1] at z0
        rw [← e2] at z1
        rw [← e3] at z2
        clear he e1 e2 e3
        go_wp2
        ((first | (with_reducible refine wp_region_calm2 (by kernel_rfl) (by kernel_rfl) ?_) | refine wp_region_calm (by kernel_rfl) (by kernel_rfl) ?_); (repeat (go_big_quiet_step (first | fail))); refine wpQuiet_nil ?_; rintro _ ⟨y, rfl⟩)
        go_wp2
        go_ret
        exact ⟨⟨_, rfl, HM.out, by omega, by omega⟩, by (try rw [hb2]); exact (by repeat (first | exact hbw | refine bO ?_ | refine bA ?_ | refine bS ?_ | refine bD ?_ | refine bN ?_))⟩
      · have HN := Lib.hid (mem_take_succ hlt HA.out (Ne.symm hne))
        clear hne
        rcases e with e1 | ⟨e1, e2⟩ | ⟨e1, e2, e3⟩
        · simp only at e1
          go_wp2
          ((first | (with_reducible refine wp_region_calm2 (by kernel_rfl) (by kernel_rfl) ?_) | refine wp_region_calm (by kernel_rfl) (by kernel_rfl) ?_); (repeat (go_big_quiet_step (first | fail))); refine wpQuiet_nil ?_; rintro _ ⟨y, rfl⟩)
          go_wp2
          go_roundw
          case rel => exact ⟨k + 1, by omega, by go_num, HN, (by repeat (first | exact hb | refine bO ?_ | refine bA ?_ | refine bS ?_ | refine bD ?_ | refine bN ?_))⟩
          case measure => simp [intOf] <;> omega
        · simp only at e1 e2
          rw [← e1] at z0
          clear e1
          go_wp2
          ((first | (with_reducible refine wp_region_calm2 (by kernel_rfl) (by kernel_rfl) ?_) | refine wp_region_calm (by kernel_rfl) (by kernel_rfl) ?_); (repeat (go_big_quiet_step (first | fail))); refine wpQuiet_nil ?_; rintro _ ⟨y, rfl⟩)
          go_wp2
          go_roundw
          case rel => exact ⟨k + 1, by omega, by go_num, HN, (by repeat (first | exact hb | refine bO ?_ | refine bA ?_ | refine bS ?_ | refine bD ?_ | refine bN ?_))⟩
          case measure => simp [intOf] <;> omega
        · simp only at e1 e2 e3
          rw [← e1] at z0
          rw [← e2] at z1
          clear e1 e2
          go_wp2
          ((first | (with_reducible refine wp_region_calm2 (by kernel_rfl) (by kernel_rfl) ?_) | refine wp_region_calm (by kernel_rfl) (by kernel_rfl) ?_); (repeat (go_big_quiet_step (first | fail))); refine wpQuiet_nil ?_; rintro _ ⟨y, rfl⟩)
          go_wp2
          go_roundw
          case rel => exact ⟨k + 1, by omega, by go_num, HN, (by repeat (first | exact hb | refine bO ?_ | refine bA ?_ | refine bS ?_ | refine bD ?_ | refine bN ?_))⟩
          case measure => simp [intOf] <;> omega
    · obtain rfl : k = xs.length := by omega
      have HM := Lib.hid (show (0 ≤ (-1 : Int) ↔ (⟨x, y, d⟩ : H3) ∈ xs) from ⟨fun h => by omega, fun h => by have := HA.out; rw [List.take_length] at this; exact absurd h this⟩)
      go_wp2
      go_ret
      exact ⟨⟨_, rfl, HM.out, by omega, by omega⟩, by (try rw [hb2]); exact (by repeat (first | exact hbw | refine bO ?_ | refine bA ?_ | refine bS ?_ | refine bD ?_ | refine bN ?_))⟩
set_option maxRecDepth 100000 in
theorem Contains_eq {xs : List H3} {x y d : Int} {v : Bool} {A : Option Addr} {c : Nat} {w : World} (R : R3 31 w A c xs) (hl : xs.length ≤ 1000000000) (hv : Hid (decide (⟨x, y, d⟩ ∈ xs) = v)) :
    Calls Try.prog 54 #[.slice A xs.length c, .agg #[.int .i64 x, .int .i64 y, .int .i64 d]] w fun e w' => e = .returned (.bool v) ∧ Below w.heap.size w w' := by
  go_enter Try.func54, Try.ntmps54
  go_wp2_with fail
  refine (calls_ov (Index_any (R.below (by repeat (first | exact bR | refine bO ?_ | refine bA ?_ | refine bS ?_ | refine bD ?_ | refine bN ?_))) hl)).mono ?_
  rintro e w' ⟨⟨i, rfl, hi, hi1, hi2⟩, y', rfl⟩
  cases v with
  | true =>
    have h0 : 0 ≤ i := hi.2 (of_decide_eq_true hv.out)
    clear hi
    go_wp2
    go_ret
    exact ⟨by first | rfl | simp [h0], (by repeat (first | exact bR | refine bO ?_ | refine bA ?_ | refine bS ?_ | refine bD ?_ | refine bN ?_))⟩
  | false =>
    have h0 : ¬ 0 ≤ i := fun h => of_decide_eq_false hv.out (hi.1 h)
    clear hi
    go_wp2
    go_ret
    exact ⟨by first | rfl | simp [h0], (by repeat (first | exact bR | refine bO ?_ | refine bA ?_ | refine bS ?_ | refine bD ?_ | refine bN ?_))⟩

def GSp (xs : List H3) (w0 : World) (v : Value) (w : World) : Prop := ∃ A c, v = .slice A xs.length c ∧ RB w0.heap.size 31 w A c xs
theorem owned_sp (xs : List H3) : Owned 25 (GSp xs) :=
  ⟨fun w0 v w x ⟨A, c, e, R⟩ => ⟨A, c, e, R.below (below_ov _ _ (Below.refl _ _) (Nat.le_refl _))⟩, fun w0 v w b cur arr hb hs ⟨A, c, e, R⟩ => ⟨A, c, e, R.set_row hb (by decide)⟩⟩
set_option maxRecDepth 100000 in
set_option maxHeartbeats 4000000 in
theorem impl_IsCorner_eq {hs : List H3} {x y d : Int} {v : Bool} {A : Option Addr} {c : Nat} {w : World} (R : R3 36 w A c hs) (hl : hs.length ≤ 1000000000) (hr : Hid (isCornerR hs ⟨x, y, d⟩ = v)) :
    Calls Try.prog 23 #[.agg #[.slice A hs.length c], .agg #[.int .i64 x, .int .i64 y, .int .i64 d]] w fun e w' => e = .returned (.bool v) ∧ Below w.heap.size w w' := by
  obtain ⟨xs, hxs⟩ : ∃ xs, cornersR hs = xs := ⟨_, rfl⟩
  have hxl := cornersR_short hxs
  have HX := Lib.hid hxs
  have hv := hr.out
  unfold isCornerR at hv
  rw [hxs] at hv
  have HV := Lib.hid hv
  have OX := owned_sp xs
  clear hv hr hxs
  go_enter Try.func23, Try.ntmps23
  go_wp2
  obtain ⟨W0, hW⟩ : ∃ W0, W0 = (w.alloc (.cells #[.slice A hs.length c] 25)).alloc (.cells #[.int .i64 x, .int .i64 y, .int .i64 d] 31) := ⟨_, rfl⟩
  rw [← hW]
  have T0 : Below w.heap.size w W0 := by rw [hW]; exact (by repeat (first | exact bR | refine bO ?_ | refine bA ?_ | refine bS ?_ | refine bD ?_ | refine bN ?_))
  have X1 := Lib.hid (show W0.heap[w.heap.size]? = some (.cells #[.slice A hs.length c] 25 (0, 0)) by rw [hW]; exact alloc_blk (heap_alloc_new _ _))
  have X2 := Lib.hid (show W0.heap[w.heap.size + 1]? = some (.cells #[.int .i64 x, .int .i64 y, .int .i64 d] 31 (0, 0)) by rw [hW]; exact heap_new_at (by simp) rfl)
  clear hW
  have t0 := T0.size
  generalize w.heap.size + 1 = b2 at X2 ⊢
  have RW := R.below T0
  obtain ⟨b1, hb1⟩ : ∃ b, w.heap.size = b := ⟨_, rfl⟩
  rw [hb1] at X1 t0 ⊢
  have x1 := cell_blk (j := 0) (v := .slice A hs.length c) X1.out rfl
  have l1 := (Array.getElem?_eq_some_iff.1 X1.out).1
  have q0 := cell_blk (j := 0) (v := .int .i64 x) X2.out rfl
  have q1 := cell_blk (j := 1) (v := .int .i64 y) X2.out rfl
  have q2 := cell_blk (j := 2) (v := .int .i64 d) X2.out rfl
  have lx := (Array.getElem?_eq_some_iff.1 X2.out).1
  refine wp_region_rel [.pur [] ?s0, .rel [] [1] false (IsOw (GSp xs)), .pur [] ?s2, .pur [1] ?s3, .pur [] ?s4] _ rfl rfl (by kernel_rfl) (by kernel_rfl) ?hst (fun vs => ?walk)
  case' walk =>
    (refine wpRel_pur rfl rfl (fun x => by ((go_wp2); refine relEnd_pur rfl ?_ (by repeat (first | exact bR | refine bO ?_ | refine bA ?_ | refine bS ?_ | refine bD ?_ | refine bN ?_)); simp only [Act.put, List.setIfInBounds_toArray, List.set_cons_succ, List.set_cons_zero]; rfl)) ?_; simp only [Act.put, List.setIfInBounds_toArray, List.set_cons_succ, List.set_cons_zero])
    refine wpRel_own rfl rfl rfl (fun x hh => ?_) ?_
    · go_wp2_with fail
      refine (impl_CornersOf_eq (RW.below (by repeat (first | exact bR | refine bO ?_ | refine bA ?_ | refine bS ?_ | refine bD ?_ | refine bN ?_))) hl HX).mono ?_
      rintro e w7 ⟨A7, c7, rfl, Q7, hb7⟩
      go_wp2
      refine relEnd_ow rfl rfl ?_ hb7 ⟨A7, c7, rfl, Q7.weak (by rw [ov_size]; omega)⟩
      (simp only [Act.put, List.setIfInBounds_toArray, List.set_cons_succ, List.set_cons_zero] <;> rfl)
    simp only [Act.put, List.setIfInBounds_toArray, List.set_cons_succ, List.set_cons_zero]
    (refine wpRel_pur rfl rfl (fun x => by ((go_wp2); refine relEnd_pur rfl ?_ (by repeat (first | exact bR | refine bO ?_ | refine bA ?_ | refine bS ?_ | refine bD ?_ | refine bN ?_)); simp only [Act.put, List.setIfInBounds_toArray, List.set_cons_succ, List.set_cons_zero]; rfl)) ?_; simp only [Act.put, List.setIfInBounds_toArray, List.set_cons_succ, List.set_cons_zero])
    (refine wpRel_purn rfl rfl (fun x hh => by ((obtain ⟨a, d, f, Q⟩ := isOw_at (hh 1 (by simp)) rfl; simp only [f]); (go_wp2_with (first | (go_at_call 54; refine (calls_ov (Contains_eq Q.r3 (by omega) HV)).mono ?_; rintro e w' ⟨rfl, x, rfl⟩))); refine relEnd_pur rfl ?_ (by repeat (first | exact bR | refine bO ?_ | refine bA ?_ | refine bS ?_ | refine bD ?_ | refine bN ?_)); simp only [Act.put, List.setIfInBounds_toArray, List.set_cons_succ, List.set_cons_zero]; rfl)) ?_; simp only [Act.put, List.setIfInBounds_toArray, List.set_cons_succ, List.set_cons_zero])
    (refine wpRel_pur rfl rfl (fun x => by ((go_wp2); refine relEnd_pur rfl ?_ (by repeat (first | exact bR | refine bO ?_ | refine bA ?_ | refine bS ?_ | refine bD ?_ | refine bN ?_)); simp only [Act.put, List.setIfInBounds_toArray, List.set_cons_succ, List.set_cons_zero]; rfl)) ?_; simp only [Act.put, List.setIfInBounds_toArray, List.set_cons_succ, List.set_cons_zero])
    refine wpRelE_nilB0 (fun W K hh => ?_)
    clear hh q0 q1 q2 lx x1 l1
    have K3 : Below w.heap.size w W := T0.trans (K.mono (by omega))
    have K2 : Below b1 w W := by rw [← hb1]; exact K3
    go_wp2
    go_ret
    exact ⟨rfl, by (try rw [hb1]); exact K2⟩
  case' hst => exact (by repeat (first | exact all_nil | refine all_cons trivial ?_ | refine all_cons isAl_stable ?_ | refine all_cons isSt_stable ?_ | refine all_cons isStB_stable ?_ | refine all_cons (isOw_stable (by assumption)) ?_))
end Go.Proofs.Ytabmfaamadbefaa
