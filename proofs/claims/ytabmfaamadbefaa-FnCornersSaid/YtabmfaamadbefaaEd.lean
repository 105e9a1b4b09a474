/- Contracts of crossing and narrow. Condition: the half planes are valid; the mark's denominator is positive. Contract of isEdge: it answers edgeI. Condition: the half planes are valid, the index is one of theirs. -/
import Derived.Test.YtabmfaamadbefaaH
import Derived.Test.YtabmfaamadbefaaFr
import Derived.Test.YtabmfaamadbefaaIns
import Derived.Test.YtabmfaamadbefaaGeo
set_option linter.unusedSimpArgs false
set_option linter.unusedVariables false
set_option linter.unusedSectionVars false
namespace Go.Proofs.Ytabmfaamadbefaa
open Go.RowKit

theorem crossing_bd {g h : H3} (kg : HOk g) (kh : HOk h) : (-5000000000000 ≤ g.c * h.b ∧ g.c * h.b ≤ 5000000000000) ∧ (-5000000000000 ≤ h.c * g.b ∧ h.c * g.b ≤ 5000000000000) ∧ (-5000000000000 ≤ g.a * h.c ∧ g.a * h.c ≤ 5000000000000) ∧ (-5000000000000 ≤ h.a * g.c ∧ h.a * g.c ≤ 5000000000000) := by
  have := mul_bd kg.bc kh.bb
  have := mul_bd kh.bc kg.bb
  have := mul_bd kg.ba kh.bc
  have := mul_bd kh.ba kg.bc
  omega

theorem crossing_any {g h : H3} {w : World} (kg : HOk g) (kh : HOk h) (hne : cross g h ≠ 0) : Calls Try.prog 95 #[.agg #[.int .i64 g.a, .int .i64 g.b, .int .i64 g.c], .agg #[.int .i64 h.a, .int .i64 h.b, .int .i64 h.c]] w fun e w' =>
    e = .returned (.tuple #[.int .i64 (crossI g h).1, .int .i64 (crossI g h).2.1, .int .i64 (crossI g h).2.2, .bool true]) ∧ Below w.heap.size w w' := by
  obtain ⟨p1, p2, p3, p4⟩ := crossing_bd kg kh
  have p5 := cross_bd kg kh
  by_cases hs : cross g h < 0
  · have HS := Lib.hid (show crossI g h = (-(g.c * h.b - h.c * g.b), -(g.a * h.c - h.a * g.c), -cross g h) by unfold crossI; rw [if_pos hs])
    clear hne
    go_enter Try.func95, Try.ntmps95
    go_wp2_with (first | (go_at_call 80; (first | (with_reducible refine (calls_ov2 (cross_any kg kh)).mono ?_) | refine (calls_ov (cross_any kg kh)).mono ?_); rintro e w' ⟨rfl, x, rfl⟩))
    refine bodyPost_ret (results_tmp4 rfl _ _ _) rfl ⟨by rw [HS.out]; rfl, ?_⟩
    (repeat (first | exact bR | refine bO ?_ | refine bA ?_ | refine bS ?_ | refine bD ?_ | refine bN ?_))
  · have HS := Lib.hid (show crossI g h = ((g.c * h.b - h.c * g.b), (g.a * h.c - h.a * g.c), cross g h) by unfold crossI; rw [if_neg hs])
    have hp : 0 < cross g h := by omega
    have hz : (cross g h != 0) = true := by simp; omega
    clear hne
    go_enter Try.func95, Try.ntmps95
    go_wp2_with (first | (go_at_call 80; (first | (with_reducible refine (calls_ov2 (cross_any kg kh)).mono ?_) | refine (calls_ov (cross_any kg kh)).mono ?_); rintro e w' ⟨rfl, x, rfl⟩))
    refine bodyPost_ret (results_tmp4 rfl _ _ _) rfl ⟨by rw [HS.out]; rfl, ?_⟩
    (repeat (first | exact bR | refine bO ?_ | refine bA ?_ | refine bS ?_ | refine bD ?_ | refine bN ?_))

/-- The mark in block B is set. -/
def mset (w : World) (B : Nat) (n d : Int) : World := ((w.setCell ⟨B, 0, none⟩ (.int .i64 n)).setCell ⟨B, 1, none⟩ (.int .i64 d)).setCell ⟨B, 2, none⟩ (.bool true)
@[go_sem] theorem setCell_drewN (w : World) (n : Nat) (a : Addr) (v : Value) : (w.drewN n).setCell a v = (w.setCell a v).drewN n := rfl
theorem quiet_left {P : Program} {f : FuncId} {args : Array Value} {w : World} {n : Nat} {v : Value}
    (h : Calls P f args (w.drewN n) fun e w' => e = .returned v ∧ w.drewN n = w') : Calls P f args (w.drewN n) fun e w'' => e = .returned v ∧ ∃ m, w'' = w.drewN m :=
  h.mono fun _ _ ⟨he, hm⟩ => ⟨he, n, hm.symm⟩

section
variable {n d n0 d0 : Int} {B : Nat} {w : World}
theorem narrow_first {later : Bool} (c0 : w.cell? ⟨B, 0, none⟩ = some (.int .i64 n0)) (c1 : w.cell? ⟨B, 1, none⟩ = some (.int .i64 d0)) (c2 : w.cell? ⟨B, 2, none⟩ = some (.bool false))
    (f0 : w.frozen? ⟨B, 0, none⟩ = false) (f1 : w.frozen? ⟨B, 1, none⟩ = false) (f2 : w.frozen? ⟨B, 2, none⟩ = false) :
    Calls Try.prog 96 #[.pointer (some ⟨B, 0, none⟩), .int .i64 n, .int .i64 d, .bool later] w fun e w' =>
      e = .returned (.tuple #[]) ∧ ∃ k, w' = (mset w B n d).drewN k := by
  go_enter Try.func96, Try.ntmps96
  go_wp2
  go_end0
  exact ⟨rfl, 0, rfl⟩

variable (c0 : w.cell? ⟨B, 0, none⟩ = some (.int .i64 n0)) (c1 : w.cell? ⟨B, 1, none⟩ = some (.int .i64 d0)) (c2 : w.cell? ⟨B, 2, none⟩ = some (.bool true))
    (f0 : w.frozen? ⟨B, 0, none⟩ = false) (f1 : w.frozen? ⟨B, 1, none⟩ = false) (f2 : w.frozen? ⟨B, 2, none⟩ = false)
    (hn : -9223372036854775808 ≤ n ∧ n ≤ 9223372036854775807) (hd : 0 < d ∧ d ≤ 9223372036854775807) (hn0 : -9223372036854775808 ≤ n0 ∧ n0 ≤ 9223372036854775807) (hd0 : 0 < d0 ∧ d0 ≤ 9223372036854775807)
include c0 c1 c2 f0 f1 f2 hn hd hn0 hd0
theorem narrow_to_keep (h : 0 ≤ cmpF n d n0 d0) :
    Calls Try.prog 96 #[.pointer (some ⟨B, 0, none⟩), .int .i64 n, .int .i64 d, .bool false] w fun e w' =>
      e = .returned (.tuple #[]) ∧ ∃ k, w' = w.drewN k := by
  go_enter Try.func96, Try.ntmps96
  go_wp2
  go_quiet ((go_at_call 97; exact quiet_left (compareFractions_any _ _ _ _ _ hn hd hn0 hd0)))
  go_wp2
  exact bodyPost_ret (results_none rfl _ _ _) rfl ⟨rfl, _, rfl⟩
theorem narrow_to_set (h : cmpF n d n0 d0 < 0) :
    Calls Try.prog 96 #[.pointer (some ⟨B, 0, none⟩), .int .i64 n, .int .i64 d, .bool false] w fun e w' =>
      e = .returned (.tuple #[]) ∧ ∃ k, w' = (mset w B n d).drewN k := by
  go_enter Try.func96, Try.ntmps96
  go_wp2
  go_quiet ((go_at_call 97; exact quiet_left (compareFractions_any _ _ _ _ _ hn hd hn0 hd0)))
  go_wp2
  go_end0
  exact ⟨rfl, _, rfl⟩
theorem narrow_from_keep (h : cmpF n d n0 d0 ≤ 0) :
    Calls Try.prog 96 #[.pointer (some ⟨B, 0, none⟩), .int .i64 n, .int .i64 d, .bool true] w fun e w' =>
      e = .returned (.tuple #[]) ∧ ∃ k, w' = w.drewN k := by
  go_enter Try.func96, Try.ntmps96
  go_wp2
  go_quiet ((go_at_call 97; exact quiet_left (compareFractions_any _ _ _ _ _ hn hd hn0 hd0)))
  go_wp2
  exact bodyPost_ret (results_none rfl _ _ _) rfl ⟨rfl, _, rfl⟩
theorem narrow_from_set (h : 0 < cmpF n d n0 d0) :
    Calls Try.prog 96 #[.pointer (some ⟨B, 0, none⟩), .int .i64 n, .int .i64 d, .bool true] w fun e w' =>
      e = .returned (.tuple #[]) ∧ ∃ k, w' = (mset w B n d).drewN k := by
  go_enter Try.func96, Try.ntmps96
  go_wp2
  go_quiet ((go_at_call 97; exact quiet_left (compareFractions_any _ _ _ _ _ hn hd hn0 hd0)))
  go_wp2
  go_end0
  exact ⟨rfl, _, rfl⟩
end
end Go.Proofs.Ytabmfaamadbefaa

set_option linter.unusedSimpArgs false
set_option linter.unusedVariables false
set_option linter.unusedSectionVars false
namespace Go.Proofs.Ytabmfaamadbefaa
open Go.RowKit

/-- The world in isEdge's loop: the half plane's box, the two marks, what else was made. -/
def edgeW (w : World) (h : H3) (fn fd : Int) (fb : Bool) (tn td : Int) (tb : Bool) : World :=
  ((w.alloc (.cells #[.int .i64 h.a, .int .i64 h.b, .int .i64 h.c] 36)).alloc (.cells #[.int .i64 fn, .int .i64 fd, .bool fb] 103)).alloc (.cells #[.int .i64 tn, .int .i64 td, .bool tb] 103)

def ScanAt (L : List H3) (h : H3) (k j : Nat) (fn fd : Int) (fb : Bool) (tn td : Int) (tb : Bool) : Prop :=
  scanS h ((L.take j).eraseIdx k) = some (optM fb fn fd, optM tb tn td)

theorem wfacts (w : World) : w.heap.size < w.heap.size + 1 + 1 + 1 ∧ w.heap.size + 1 < w.heap.size + 1 + 1 + 1 ∧ w.heap.size + 1 + 1 < w.heap.size + 1 + 1 + 1 := by omega

set_option maxHeartbeats 2000000 in
theorem isEdge_any {L : List H3} {k : Nat} {A : Option Addr} {c : Nat} {w : World} (G : ∀ g ∈ L, HOk g) (hk : k < L.length) (R : R3 36 w A c L) (hl : L.length ≤ 1000) :
    Calls Try.prog 67 #[.slice A L.length c, .int .i64 k] w fun e w' => e = .returned (.tuple #[.bool (edgeI L k L[k]).1, .bool (edgeI L k L[k]).2]) ∧ Below w.heap.size w w' := by
  obtain ⟨g, rfl, hg, q0, q1, q2⟩ := R.at_ hk
  have kh := G _ (List.getElem_mem hk)
  go_enter Try.func67, Try.ntmps67
  go_wp2
  go_loopw [23] (fun i wr => ∃ j : Nat, j ≤ L.length ∧ i = .int .i64 j ∧ ∃ (fn fd : Int) (fb : Bool) (tn td : Int) (tb : Bool), ScanAt L L[k] k j fn fd fb tn td tb ∧
      (-1000000000000000000 ≤ fn ∧ fn ≤ 1000000000000000000) ∧ (fd ≤ 5000000000 ∧ (fb = true → 0 < fd)) ∧ (-1000000000000000000 ≤ tn ∧ tn ≤ 1000000000000000000) ∧ (td ≤ 5000000000 ∧ (tb = true → 0 < td)) ∧
      ∃ x, wr = ov (edgeW w L[k] fn fd fb tn td tb) x) (fun i _ => L.length - (intOf i).toNat)
  case atStart => exact ⟨0, Nat.zero_le _, rfl, 0, 0, false, 0, 0, false, rfl, by omega, ⟨by omega, by simp⟩, by omega, ⟨by omega, by simp⟩, ov_of_below (Below.refl _ _)⟩
  case round =>
    obtain ⟨j, hj, rfl, fn, fd, fb, tn, td, tb, hs, bf, bfd, bt, btd, x, rfl⟩ := hrel
    by_cases hlt : j < L.length
    · obtain ⟨g', eg, hg', z0, z1, z2⟩ := ((((R.alloc _).alloc _).alloc _).ov x : R3 36 (ov (edgeW w L[k] fn fd fb tn td tb) x) _ _ _).at_ hlt
      obtain rfl : g' = g := by injection eg with e; injection e with e; exact e.symm
      unfold edgeW
      clear eg
      by_cases hjk : j = k
      · have ejk : ((j : Int) == (k : Int)) = true := by simp [hjk]
        have HJ := Lib.hid hjk
        clear hjk
        go_wp2
        go_roundw
        case rel => exact ⟨j + 1, by omega, by go_num, fn, fd, fb, tn, td, tb, by have e := HJ.out; unfold ScanAt at *; rw [e] at hs ⊢; rw [take_erase_same]; exact hs, bf, bfd, bt, btd, by (try unfold edgeW); exact ov_of_below (by repeat (first | exact bR | refine bO ?_ | refine bA ?_ | refine bS ?_ | refine bD ?_ | refine bN ?_))⟩
        case measure => simp [intOf]; omega
      · have ejk : ((j : Int) == (k : Int)) = false := by simp; omega
        have kg := G _ (List.getElem_mem hlt)
        have hsc := Lib.hid (scanS_succ L[k] L k j hlt hjk)
        have hnone := Lib.hid (scanS_none_all L[k] L k j hlt hjk)
        clear hjk
        by_cases c0 : cross L[k] L[j] = 0
        · have ec : (cross L[k] L[j] == 0) = true := by simp [c0]
          have C0 := Lib.hid c0
          clear c0
          cases hl : leaves L[j] L[k] with
          | true =>
            go_wp2_with (first | (go_at_call 80; (first | (with_reducible refine (calls_ov2 (cross_any kh kg)).mono ?_) | refine (calls_ov (cross_any kh kg)).mono ?_); rintro e w' ⟨rfl, x, rfl⟩) | (go_at_call 94; (first | (with_reducible refine (calls_ov2 (hl ▸ leavesRoom_any kg kh)).mono ?_) | refine (calls_ov (hl ▸ leavesRoom_any kg kh)).mono ?_); rintro e w' ⟨rfl, x, rfl⟩))
            go_roundw
            case rel => exact ⟨j + 1, by omega, by go_num, fn, fd, fb, tn, td, tb, by unfold ScanAt at *; rw [hsc.out, hs, step_zero _ _ C0.out, hl]; rfl, bf, bfd, bt, btd, by (try unfold edgeW); exact ov_of_below (by repeat (first | exact bR | refine bO ?_ | refine bA ?_ | refine bS ?_ | refine bD ?_ | refine bN ?_))⟩
            case measure => simp [intOf]; omega
          | false =>
            have HN := Lib.hid (show edgeI L k L[k] = (false, true) from edgeI_of_none (hnone.out (by unfold ScanAt at hs; rw [hs, step_zero _ _ C0.out, hl]; rfl)))
            go_wp2_with (first | (go_at_call 80; (first | (with_reducible refine (calls_ov2 (cross_any kh kg)).mono ?_) | refine (calls_ov (cross_any kh kg)).mono ?_); rintro e w' ⟨rfl, x, rfl⟩) | (go_at_call 94; (first | (with_reducible refine (calls_ov2 (hl ▸ leavesRoom_any kg kh)).mono ?_) | refine (calls_ov (hl ▸ leavesRoom_any kg kh)).mono ?_); rintro e w' ⟨rfl, x, rfl⟩))
            go_ret2
            exact ⟨by rw [HN.out]; rfl, (by repeat (first | exact bR | refine bO ?_ | refine bA ?_ | refine bS ?_ | refine bD ?_ | refine bN ?_))⟩
        · have ec : (cross L[k] L[j] == 0) = false := by simp [c0]
          obtain ⟨m1, m2, m3, m4⟩ := mark_parts kh kg
          have mb := markI_bd kh kg c0
          have dlo := crossI_pos c0
          have dhi := crossI_bd kh kg
          have MV := Lib.hid (show markI L[k] L[j] = (L[k].a * (crossI L[k] L[j]).2.1 - L[k].b * (crossI L[k] L[j]).1, (crossI L[k] L[j]).2.2) from rfl)
          by_cases cp : 0 < cross L[k] L[j]
          · cases tb with
            | false =>
              have HU := Lib.hid (show scanS L[k] ((L.take (j + 1)).eraseIdx k) = some (optM fb fn fd, optM true (markI L[k] L[j]).1 (markI L[k] L[j]).2) by unfold ScanAt at hs; rw [hsc.out, hs, step_pos _ _ cp]; rfl)
              go_wp2_with (first | (go_at_call 80; (first | (with_reducible refine (calls_ov2 (cross_any kh kg)).mono ?_) | refine (calls_ov (cross_any kh kg)).mono ?_); rintro e w' ⟨rfl, x, rfl⟩) | (go_at_call 95; (first | (with_reducible refine (calls_ov2 (crossing_any kh kg c0)).mono ?_) | refine (calls_ov (crossing_any kh kg c0)).mono ?_); rintro e w' ⟨rfl, x, rfl⟩) | (go_at_call 96; refine (narrow_first (n0 := tn) (d0 := td) (by simp [go_sem]) (by simp [go_sem]) (by simp [go_sem]) (by simp [go_sem]) (by simp [go_sem]) (by simp [go_sem])).mono ?_; rintro e w' ⟨rfl, n', rfl⟩; (try unfold mset)))
              go_roundw
              case rel => exact ⟨j + 1, by omega, by go_num, fn, fd, fb, (markI L[k] L[j]).1, (markI L[k] L[j]).2, true, HU.out, bf, bfd, ⟨mb.1, mb.2.1⟩, ⟨mb.2.2.2, fun _ => mb.2.2.1⟩, by (try unfold edgeW); exact ov_of_below (by repeat (first | exact bR | refine bO ?_ | refine bA ?_ | refine bS ?_ | refine bD ?_ | refine bN ?_))⟩
              case measure => simp [intOf]; omega
            | true =>
              have td0 := btd.2 rfl
              by_cases hc : 0 ≤ cmpF (markI L[k] L[j]).1 (markI L[k] L[j]).2 tn td
              · have HU := Lib.hid (show scanS L[k] ((L.take (j + 1)).eraseIdx k) = some (optM fb fn fd, optM true tn td) by unfold ScanAt at hs; rw [hsc.out, hs, step_pos _ _ cp, upd_to, if_pos hc])
                go_wp2_with (first | (go_at_call 80; (first | (with_reducible refine (calls_ov2 (cross_any kh kg)).mono ?_) | refine (calls_ov (cross_any kh kg)).mono ?_); rintro e w' ⟨rfl, x, rfl⟩) | (go_at_call 95; (first | (with_reducible refine (calls_ov2 (crossing_any kh kg c0)).mono ?_) | refine (calls_ov (crossing_any kh kg c0)).mono ?_); rintro e w' ⟨rfl, x, rfl⟩) | (go_at_call 96; refine (narrow_to_keep (n0 := tn) (d0 := td) (by simp [go_sem]) (by simp [go_sem]) (by simp [go_sem]) (by simp [go_sem]) (by simp [go_sem]) (by simp [go_sem]) (by omega) (by omega) (by omega) (by omega) (by have e := MV.out; rw [e] at hc; simp only at hc; omega)).mono ?_; rintro e w' ⟨rfl, n', rfl⟩; (try unfold mset)))
                go_roundw
                case rel => exact ⟨j + 1, by omega, by go_num, fn, fd, fb, tn, td, true, HU.out, bf, bfd, bt, ⟨btd.1, fun _ => td0⟩, by (try unfold edgeW); exact ov_of_below (by repeat (first | exact bR | refine bO ?_ | refine bA ?_ | refine bS ?_ | refine bD ?_ | refine bN ?_))⟩
                case measure => simp [intOf]; omega
              · have HU := Lib.hid (show scanS L[k] ((L.take (j + 1)).eraseIdx k) = some (optM fb fn fd, optM true (markI L[k] L[j]).1 (markI L[k] L[j]).2) by unfold ScanAt at hs; rw [hsc.out, hs, step_pos _ _ cp, upd_to, if_neg hc])
                go_wp2_with (first | (go_at_call 80; (first | (with_reducible refine (calls_ov2 (cross_any kh kg)).mono ?_) | refine (calls_ov (cross_any kh kg)).mono ?_); rintro e w' ⟨rfl, x, rfl⟩) | (go_at_call 95; (first | (with_reducible refine (calls_ov2 (crossing_any kh kg c0)).mono ?_) | refine (calls_ov (crossing_any kh kg c0)).mono ?_); rintro e w' ⟨rfl, x, rfl⟩) | (go_at_call 96; refine (narrow_to_set (n0 := tn) (d0 := td) (by simp [go_sem]) (by simp [go_sem]) (by simp [go_sem]) (by simp [go_sem]) (by simp [go_sem]) (by simp [go_sem]) (by omega) (by omega) (by omega) (by omega) (by have e := MV.out; rw [e] at hc; simp only at hc; omega)).mono ?_; rintro e w' ⟨rfl, n', rfl⟩; (try unfold mset)))
                go_roundw
                case rel => exact ⟨j + 1, by omega, by go_num, fn, fd, fb, (markI L[k] L[j]).1, (markI L[k] L[j]).2, true, HU.out, bf, bfd, ⟨mb.1, mb.2.1⟩, ⟨mb.2.2.2, fun _ => mb.2.2.1⟩, by (try unfold edgeW); exact ov_of_below (by repeat (first | exact bR | refine bO ?_ | refine bA ?_ | refine bS ?_ | refine bD ?_ | refine bN ?_))⟩
                case measure => simp [intOf]; omega
          · have cn : cross L[k] L[j] < 0 := by omega
            cases fb with
            | false =>
              have HU := Lib.hid (show scanS L[k] ((L.take (j + 1)).eraseIdx k) = some (optM true (markI L[k] L[j]).1 (markI L[k] L[j]).2, optM tb tn td) by unfold ScanAt at hs; rw [hsc.out, hs, step_neg _ _ cn]; rfl)
              go_wp2_with (first | (go_at_call 80; (first | (with_reducible refine (calls_ov2 (cross_any kh kg)).mono ?_) | refine (calls_ov (cross_any kh kg)).mono ?_); rintro e w' ⟨rfl, x, rfl⟩) | (go_at_call 95; (first | (with_reducible refine (calls_ov2 (crossing_any kh kg c0)).mono ?_) | refine (calls_ov (crossing_any kh kg c0)).mono ?_); rintro e w' ⟨rfl, x, rfl⟩) | (go_at_call 96; refine (narrow_first (n0 := fn) (d0 := fd) (by simp [go_sem]) (by simp [go_sem]) (by simp [go_sem]) (by simp [go_sem]) (by simp [go_sem]) (by simp [go_sem])).mono ?_; rintro e w' ⟨rfl, n', rfl⟩; (try unfold mset)))
              go_roundw
              case rel => exact ⟨j + 1, by omega, by go_num, (markI L[k] L[j]).1, (markI L[k] L[j]).2, true, tn, td, tb, HU.out, ⟨mb.1, mb.2.1⟩, ⟨mb.2.2.2, fun _ => mb.2.2.1⟩, bt, btd, by (try unfold edgeW); exact ov_of_below (by repeat (first | exact bR | refine bO ?_ | refine bA ?_ | refine bS ?_ | refine bD ?_ | refine bN ?_))⟩
              case measure => simp [intOf]; omega
            | true =>
              have fd0 := bfd.2 rfl
              by_cases hc : cmpF (markI L[k] L[j]).1 (markI L[k] L[j]).2 fn fd ≤ 0
              · have HU := Lib.hid (show scanS L[k] ((L.take (j + 1)).eraseIdx k) = some (optM true fn fd, optM tb tn td) by unfold ScanAt at hs; rw [hsc.out, hs, step_neg _ _ cn, upd_from, if_pos hc])
                go_wp2_with (first | (go_at_call 80; (first | (with_reducible refine (calls_ov2 (cross_any kh kg)).mono ?_) | refine (calls_ov (cross_any kh kg)).mono ?_); rintro e w' ⟨rfl, x, rfl⟩) | (go_at_call 95; (first | (with_reducible refine (calls_ov2 (crossing_any kh kg c0)).mono ?_) | refine (calls_ov (crossing_any kh kg c0)).mono ?_); rintro e w' ⟨rfl, x, rfl⟩) | (go_at_call 96; refine (narrow_from_keep (n0 := fn) (d0 := fd) (by simp [go_sem]) (by simp [go_sem]) (by simp [go_sem]) (by simp [go_sem]) (by simp [go_sem]) (by simp [go_sem]) (by omega) (by omega) (by omega) (by omega) (by have e := MV.out; rw [e] at hc; simp only at hc; omega)).mono ?_; rintro e w' ⟨rfl, n', rfl⟩; (try unfold mset)))
                go_roundw
                case rel => exact ⟨j + 1, by omega, by go_num, fn, fd, true, tn, td, tb, HU.out, bf, ⟨bfd.1, fun _ => fd0⟩, bt, btd, by (try unfold edgeW); exact ov_of_below (by repeat (first | exact bR | refine bO ?_ | refine bA ?_ | refine bS ?_ | refine bD ?_ | refine bN ?_))⟩
                case measure => simp [intOf]; omega
              · have HU := Lib.hid (show scanS L[k] ((L.take (j + 1)).eraseIdx k) = some (optM true (markI L[k] L[j]).1 (markI L[k] L[j]).2, optM tb tn td) by unfold ScanAt at hs; rw [hsc.out, hs, step_neg _ _ cn, upd_from, if_neg hc])
                go_wp2_with (first | (go_at_call 80; (first | (with_reducible refine (calls_ov2 (cross_any kh kg)).mono ?_) | refine (calls_ov (cross_any kh kg)).mono ?_); rintro e w' ⟨rfl, x, rfl⟩) | (go_at_call 95; (first | (with_reducible refine (calls_ov2 (crossing_any kh kg c0)).mono ?_) | refine (calls_ov (crossing_any kh kg c0)).mono ?_); rintro e w' ⟨rfl, x, rfl⟩) | (go_at_call 96; refine (narrow_from_set (n0 := fn) (d0 := fd) (by simp [go_sem]) (by simp [go_sem]) (by simp [go_sem]) (by simp [go_sem]) (by simp [go_sem]) (by simp [go_sem]) (by omega) (by omega) (by omega) (by omega) (by have e := MV.out; rw [e] at hc; simp only at hc; omega)).mono ?_; rintro e w' ⟨rfl, n', rfl⟩; (try unfold mset)))
                go_roundw
                case rel => exact ⟨j + 1, by omega, by go_num, (markI L[k] L[j]).1, (markI L[k] L[j]).2, true, tn, td, tb, HU.out, ⟨mb.1, mb.2.1⟩, ⟨mb.2.2.2, fun _ => mb.2.2.1⟩, bt, btd, by (try unfold edgeW); exact ov_of_below (by repeat (first | exact bR | refine bO ?_ | refine bA ?_ | refine bS ?_ | refine bD ?_ | refine bN ?_))⟩
                case measure => simp [intOf]; omega
    · obtain rfl : j = L.length := by omega
      have hs' : scanS L[k] (L.eraseIdx k) = some (optM fb fn fd, optM tb tn td) := by unfold ScanAt at hs; rwa [List.take_length] at hs
      have HE := Lib.hid (edgeI_of_scan hs')
      clear hs'
      unfold edgeW
      cases fb with
      | false =>
        go_wp2
        go_ret2
        exact ⟨by rw [HE.out]; rfl, (by repeat (first | exact bR | refine bO ?_ | refine bA ?_ | refine bS ?_ | refine bD ?_ | refine bN ?_))⟩
      | true =>
        cases tb with
        | false =>
          go_wp2
          go_ret2
          exact ⟨by rw [HE.out]; rfl, (by repeat (first | exact bR | refine bO ?_ | refine bA ?_ | refine bS ?_ | refine bD ?_ | refine bN ?_))⟩
        | true =>
          have fd0 := bfd.2 rfl
          have td0 := btd.2 rfl
          go_wp2_with (first | (go_at_call 97; refine (compareFractions_any _ _ _ _ _ (by omega) (by omega) (by omega) (by omega)).mono ?_; rintro e w' ⟨rfl, rfl⟩))
          go_ret2
          exact ⟨by rw [HE.out]; rfl, (by repeat (first | exact bR | refine bO ?_ | refine bA ?_ | refine bS ?_ | refine bD ?_ | refine bN ?_))⟩
end Go.Proofs.Ytabmfaamadbefaa
