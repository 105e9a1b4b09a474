/- Rooms in the laws: the argument opened, its size, the copy, the comparison. Condition: rows of at most 2^20 where said. -/
import Derived.Test.YtgdleimdenbnlaaPq
import Derived.Test.YtgdleimdenbnlaaLt
set_option linter.unusedVariables false
set_option linter.unusedSimpArgs false
set_option linter.unusedSectionVars false
namespace Go.Proofs.Ytgdleimdenbnlaa
open Go.ChangeShapes Go.WideShapes Go.ChangeAt Go.RowKit Go.Joins Go.Deep

structure RoomV where
  m : List Int
  q : Int
  bx : Int
  by_ : Int
  lo : Int
  hi : Int
  ns : List H3
  ls : List H3
structure RoomV.InL (r : RoomV) : Prop where
  m : r.m.length ≤ 9223372036854775807
  q : -9223372036854775808 ≤ r.q ∧ r.q ≤ 9223372036854775807
  bx : -9223372036854775808 ≤ r.bx ∧ r.bx ≤ 9223372036854775807
  by_ : -9223372036854775808 ≤ r.by_ ∧ r.by_ ≤ 9223372036854775807
  lo : -9223372036854775808 ≤ r.lo ∧ r.lo ≤ 9223372036854775807
  hi : -9223372036854775808 ≤ r.hi ∧ r.hi ≤ 9223372036854775807
  ns : r.ns.length ≤ 9223372036854775807
  ls : r.ls.length ≤ 9223372036854775807
/-- Short rows. -/
structure RoomV.Short (r : RoomV) : Prop where
  m : r.m.length ≤ 1048576
  ns : r.ns.length ≤ 1048576
  ls : r.ls.length ≤ 1048576
def RLM (w : World) (r : RoomV) (A1 A2 A3 : Option Addr) : Prop := RI w A1 r.m ∧ RL w A2 r.ns ∧ RL w A3 r.ls
theorem RLM.below {w w' : World} {r : RoomV} {A1 A2 A3 : Option Addr} (h : RLM w r A1 A2 A3) (hb : Below w.heap.size w w') : RLM w' r A1 A2 A3 := ⟨h.1.below hb, h.2.1.below hb, h.2.2.below hb⟩
/-- A room's rows, at any address. -/
structure RM (w : World) (r : RoomV) (A1 A2 : Option Addr) (c2 : Nat) (A3 : Option Addr) (c3 : Nat) : Prop where
  mr : RI w A1 r.m
  nr : R3 49 w A2 c2 r.ns
  lr : R3 49 w A3 c3 r.ls
theorem RM.below {w w' : World} {r : RoomV} {A1 A2 A3 : Option Addr} {c2 c3 : Nat} (h : RM w r A1 A2 c2 A3 c3) (hb : Below w.heap.size w w') : RM w' r A1 A2 c2 A3 c3 := ⟨h.mr.below hb, h.nr.below hb, h.lr.below hb⟩
/-- A room's rows, each in a block of its own. -/
structure RBM (B : Nat) (w : World) (r : RoomV) (a1 : Nat) (A2 : Option Addr) (c2 : Nat) (A3 : Option Addr) (c3 : Nat) : Prop where
  lo1 : B ≤ a1
  ib : IB a1 w r.m
  nb : RB B 49 w A2 c2 r.ns
  lb : RB B 49 w A3 c3 r.ls
  ap : Apart A2 A3
theorem RBM.below {B : Nat} {w w' : World} {r : RoomV} {a1 : Nat} {A2 A3 : Option Addr} {c2 c3 : Nat} (h : RBM B w r a1 A2 c2 A3 c3) (hb : Below w.heap.size w w') : RBM B w' r a1 A2 c2 A3 c3 := ⟨h.lo1, h.ib.below hb, h.nb.below hb, h.lb.below hb, h.ap⟩
theorem RBM.weak {B B' : Nat} {w : World} {r : RoomV} {a1 : Nat} {A2 A3 : Option Addr} {c2 c3 : Nat} (h : RBM B w r a1 A2 c2 A3 c3) (hb : B' ≤ B) : RBM B' w r a1 A2 c2 A3 c3 := ⟨Nat.le_trans hb h.lo1, h.ib, h.nb.weak hb, h.lb.weak hb, h.ap⟩
theorem RBM.rm {B : Nat} {w : World} {r : RoomV} {a1 : Nat} {A2 A3 : Option Addr} {c2 c3 : Nat} (h : RBM B w r a1 A2 c2 A3 c3) : RM w r (some ⟨a1, 0, none⟩) A2 c2 A3 c3 := ⟨h.ib.ri, h.nb.r3, h.lb.r3⟩

section
variable {H : Type} {enc : TypeId × Value → H} {w : World} {base : Nat} {spare : Nat → Bool} {held : Bool} {n : Nat}
theorem region_of_trod {c0 : Value} {y : DataW H × List MemPlace} (h : DataW.trod enc Try.prog w base spare held n 25 [c0] = some y) :
    ∃ (A : Option Addr) (c : Nat) (xs : List H3), c0 = .slice A xs.length c ∧ RL w A xs ∧ xs.length ≤ 9223372036854775807 := by
  obtain ⟨ys, n', _, _, _, hyl, hg⟩ := DataW.trod_struct Try.underlying25 h
  have f0 : DataW.trod enc Try.prog w base spare held n' 23 [c0] = ys[0]? := by simpa [show Try.prog.cellsOf 23 = 1 by kernel_rfl, Value.cells] using hg 0 _ rfl
  obtain ⟨y0, hy0⟩ : ∃ y0, ys[0]? = some y0 := ⟨_, List.getElem?_eq_getElem (by rw [hyl]; decide)⟩
  rw [hy0] at f0
  obtain ⟨A, c, xs, e, h1, h2, h3⟩ := row_of_trod f0
  injection e with e
  subst e
  exact ⟨A, c, xs, rfl, h1, by unfold maxLen at h3; omega⟩
theorem cells_region : Try.prog.cellsOf 25 = 1 := by kernel_rfl
theorem cells_ints : Try.prog.cellsOf 22 = 1 := by kernel_rfl
set_option maxRecDepth 100000 in
set_option maxHeartbeats 1000000 in
theorem open_room {v : Value} {d : DataW H} {p : List MemPlace} {r : Reach} {b0 : Nat} (hv : Value.okWide Try.prog w r b0 27 v) (h : DataW.Trod enc Try.prog w base spare held 27 v d p) :
    ∃ (r : RoomV) (A1 A2 A3 : Option Addr) (c1 c2 c3 : Nat), v = .agg #[.slice A1 r.m.length c1, .int .i64 r.q, .int .i64 r.bx, .int .i64 r.by_, .int .i64 r.lo, .int .i64 r.hi, .slice A2 r.ns.length c2, .slice A3 r.ls.length c3] ∧ RLM w r A1 A2 A3 ∧ r.InL := by
  obtain ⟨⟨l⟩, rfl, hsz⟩ := okWide_struct Try.underlying27 hv
  rw [show Try.prog.cellsOf 27 = 8 by kernel_rfl] at hsz
  match l, hsz with
  | [c0, c1, c2, c3, c4, c5, c6, c7], _ =>
    obtain ⟨fuel, hf⟩ := h
    obtain ⟨ys, n', _, _, _, hyl, hg⟩ := DataW.trod_struct Try.underlying27 hf
    have f0 : DataW.trod enc Try.prog w base spare held n' 22 [c0] = ys[0]? := by simpa [cells_int, cells_region, cells_ints, Value.cells] using hg 0 _ rfl
    have f1 : DataW.trod enc Try.prog w base spare held n' 3 [c1] = ys[1]? := by simpa [cells_int, cells_region, cells_ints, Value.cells] using hg 1 _ rfl
    have f2 : DataW.trod enc Try.prog w base spare held n' 3 [c2] = ys[2]? := by simpa [cells_int, cells_region, cells_ints, Value.cells] using hg 2 _ rfl
    have f3 : DataW.trod enc Try.prog w base spare held n' 3 [c3] = ys[3]? := by simpa [cells_int, cells_region, cells_ints, Value.cells] using hg 3 _ rfl
    have f4 : DataW.trod enc Try.prog w base spare held n' 3 [c4] = ys[4]? := by simpa [cells_int, cells_region, cells_ints, Value.cells] using hg 4 _ rfl
    have f5 : DataW.trod enc Try.prog w base spare held n' 3 [c5] = ys[5]? := by simpa [cells_int, cells_region, cells_ints, Value.cells] using hg 5 _ rfl
    have f6 : DataW.trod enc Try.prog w base spare held n' 25 [c6] = ys[6]? := by simpa [cells_int, cells_region, cells_ints, Value.cells] using hg 6 _ rfl
    have f7 : DataW.trod enc Try.prog w base spare held n' 25 [c7] = ys[7]? := by simpa [cells_int, cells_region, cells_ints, Value.cells] using hg 7 _ rfl
    have hy8 : ys.length = 8 := hyl
    have hy : ∀ k, k < 8 → ∃ y, ys[k]? = some y := fun k hk => ⟨_, List.getElem?_eq_getElem (by omega)⟩
    obtain ⟨y0, hy0⟩ := hy 0 (by decide)
    obtain ⟨y1, hy1⟩ := hy 1 (by decide)
    obtain ⟨y2, hy2⟩ := hy 2 (by decide)
    obtain ⟨y3, hy3⟩ := hy 3 (by decide)
    obtain ⟨y4, hy4⟩ := hy 4 (by decide)
    obtain ⟨y5, hy5⟩ := hy 5 (by decide)
    obtain ⟨y6, hy6⟩ := hy 6 (by decide)
    obtain ⟨y7, hy7⟩ := hy 7 (by decide)
    rw [hy0] at f0
    rw [hy1] at f1
    rw [hy2] at f2
    rw [hy3] at f3
    rw [hy4] at f4
    rw [hy5] at f5
    rw [hy6] at f6
    rw [hy7] at f7
    obtain ⟨A1, k1, xs, e0, R1, l0, l1, _⟩ := ints_of_trod f0
    injection e0 with e0
    subst e0
    obtain ⟨x1, rfl, b1⟩ := int_of_trod f1
    obtain ⟨x2, rfl, b2⟩ := int_of_trod f2
    obtain ⟨x3, rfl, b3⟩ := int_of_trod f3
    obtain ⟨x4, rfl, b4⟩ := int_of_trod f4
    obtain ⟨x5, rfl, b5⟩ := int_of_trod f5
    obtain ⟨A2, k2, ns, rfl, R2, l2⟩ := region_of_trod f6
    obtain ⟨A3, k3, ls, rfl, R3, l3⟩ := region_of_trod f7
    exact ⟨⟨xs, x1, x2, x3, x4, x5, ns, ls⟩, A1, A2, A3, k1, k2, k3, rfl, ⟨R1, R2, R3⟩, ⟨by unfold maxLen at l1; (try simp only) ; omega, b1, b2, b3, b4, b5, l2, l3⟩⟩
end

def szRm (r : RoomV) (left : Int) : Int := szL r.ls.length (szL r.ns.length (szL r.m.length left))
theorem szL_neg {n : Nat} {l : Int} (h : l < 0) : szL n l = -1 := by unfold szL; rw [if_pos (by omega)]
theorem szL_le {n : Nat} {l : Int} (h : ¬ szL n l < 0) : szL n l = l - n := by
  unfold szL at *
  split at h
  · omega
  · rename_i k; rw [if_neg k]
theorem szL_neg1 {n : Nat} {l : Int} (h : szL n l < 0) : szL n l = -1 := by
  unfold szL at *
  split at h
  · rename_i k; rw [if_pos k]
  · omega
theorem szRm_bd {r : RoomV} {left z : Int} (h : szRm r left = z) (hz : ¬ z < 0) (hl : left ≤ 1048576) : r.m.length ≤ 1048576 ∧ r.ns.length ≤ 1048576 ∧ r.ls.length ≤ 1048576 ∧ z ≤ 1048576 := by
  unfold szRm at h
  subst h
  have a := szL_le hz
  by_cases h2 : szL r.ns.length (szL r.m.length left) < 0
  · exact absurd (by rw [szL_neg h2]; decide) hz
  have b := szL_le h2
  by_cases h1 : szL r.m.length left < 0
  · exact absurd (by rw [szL_neg h1]; decide) h2
  have c := szL_le h1
  omega
theorem szIntS_eq {n c : Nat} {A : Option Addr} {left v : Int} {w : World} (h : Hid (szL n left = v)) (hn : n ≤ 9223372036854775807) (hl : 0 ≤ left ∧ left ≤ 1048576) :
    Calls Try.prog 48 #[.slice A n c, .int .i64 left] w fun e w' => e = .returned (.int .i64 v) ∧ Below w.heap.size w w' := by
  have h' := h.out
  unfold szL at h'
  by_cases hc : left - n < 0
  · rw [if_pos hc] at h'
    subst h'
    go_enter Try.func48, Try.ntmps48
    go_wp2
    go_ret
    exact ⟨rfl, (by repeat (first | exact bR | refine bO ?_ | refine bA ?_ | refine bS ?_ | refine bD ?_ | refine bN ?_))⟩
  · rw [if_neg hc] at h'
    subst h'
    go_enter Try.func48, Try.ntmps48
    go_wp2
    go_ret
    exact ⟨rfl, (by repeat (first | exact bR | refine bO ?_ | refine bA ?_ | refine bS ?_ | refine bD ?_ | refine bN ?_))⟩
set_option maxHeartbeats 1000000 in
theorem szRoom_eq {r : RoomV} {A1 A2 A3 : Option Addr} {c1 c2 c3 : Nat} {left v : Int} {w : World} (h : Hid (szRm r left = v)) (hl : r.InL) (hb : 0 ≤ left ∧ left ≤ 1048576) :
    Calls Try.prog 13 #[.agg #[.slice A1 r.m.length c1, .int .i64 r.q, .int .i64 r.bx, .int .i64 r.by_, .int .i64 r.lo, .int .i64 r.hi, .slice A2 r.ns.length c2, .slice A3 r.ls.length c3], .int .i64 left] w fun e w' => e = .returned (.int .i64 v) ∧ Below w.heap.size w w' := by
  have k1 := hl.m
  have k2 := hl.ns
  have k3 := hl.ls
  have h' := h.out
  unfold szRm at h'
  obtain ⟨z1, e1⟩ : ∃ z, szL r.m.length left = z := ⟨_, rfl⟩
  rw [e1] at h'
  obtain ⟨z2, e2⟩ : ∃ z, szL r.ns.length z1 = z := ⟨_, rfl⟩
  rw [e2] at h'
  have E1 := Lib.hid e1
  have E2 := Lib.hid e2
  have E3 := Lib.hid h'
  clear hl h
  by_cases hz1 : z1 < 0
  · have q1 : z1 = -1 := by rw [← e1]; exact szL_neg1 (by rw [e1]; exact hz1)
    have q2 : z2 = -1 := by rw [← e2]; exact szL_neg hz1
    have q3 : v = -1 := by rw [← h']; exact szL_neg (by omega)
    clear e1 e2 h' E2 E3
    subst q3
    go_enter Try.func13, Try.ntmps13
    go_wp2_with ((go_at_call 48; (first | (with_reducible refine (calls_ov2 (szIntS_eq E1 k1 hb)).mono ?_) | refine (calls_ov (szIntS_eq E1 k1 hb)).mono ?_); rintro e w' ⟨rfl, x, rfl⟩))
    go_ret
    exact ⟨rfl, (by repeat (first | exact bR | refine bO ?_ | refine bA ?_ | refine bS ?_ | refine bD ?_ | refine bN ?_))⟩
  · have b1 : z1 ≤ 1048576 := by have := szL_le (n := r.m.length) (l := left) (by rw [e1]; exact hz1); omega
    by_cases hz2 : z2 < 0
    · have q3 : v = -1 := by rw [← h']; exact szL_neg hz2
      clear e1 e2 h' E3
      subst q3
      go_enter Try.func13, Try.ntmps13
      go_wp2_with (first | (go_at_call 48; (first | (with_reducible refine (calls_ov2 (szIntS_eq E1 k1 hb)).mono ?_) | refine (calls_ov (szIntS_eq E1 k1 hb)).mono ?_); rintro e w' ⟨rfl, x, rfl⟩) | (go_at_call 29; (first | (with_reducible refine (calls_ov2 (szRegion_eq E2 k2 ⟨by omega, by omega⟩)).mono ?_) | refine (calls_ov (szRegion_eq E2 k2 ⟨by omega, by omega⟩)).mono ?_); rintro e w' ⟨rfl, x, rfl⟩))
      go_ret
      exact ⟨rfl, (by repeat (first | exact bR | refine bO ?_ | refine bA ?_ | refine bS ?_ | refine bD ?_ | refine bN ?_))⟩
    · have b2 : z2 ≤ 1048576 := by have := szL_le (n := r.ns.length) (l := z1) (by rw [e2]; exact hz2); omega
      by_cases hz3 : v < 0
      · have q3 : v = -1 := by rw [← h']; exact szL_neg1 (by rw [h']; exact hz3)
        clear e1 e2 h'
        subst q3
        go_enter Try.func13, Try.ntmps13
        go_wp2_with (first | (go_at_call 48; (first | (with_reducible refine (calls_ov2 (szIntS_eq E1 k1 hb)).mono ?_) | refine (calls_ov (szIntS_eq E1 k1 hb)).mono ?_); rintro e w' ⟨rfl, x, rfl⟩) | (go_at_call 29; (first | (with_reducible refine (calls_ov2 (szRegion_eq (by first | exact E2 | exact E3) (by first | exact k2 | exact k3) ⟨by omega, by omega⟩)).mono ?_) | refine (calls_ov (szRegion_eq (by first | exact E2 | exact E3) (by first | exact k2 | exact k3) ⟨by omega, by omega⟩)).mono ?_); rintro e w' ⟨rfl, x, rfl⟩))
        go_ret
        exact ⟨rfl, (by repeat (first | exact bR | refine bO ?_ | refine bA ?_ | refine bS ?_ | refine bD ?_ | refine bN ?_))⟩
      · clear e1 e2 h'
        go_enter Try.func13, Try.ntmps13
        go_wp2_with (first | (go_at_call 48; (first | (with_reducible refine (calls_ov2 (szIntS_eq E1 k1 hb)).mono ?_) | refine (calls_ov (szIntS_eq E1 k1 hb)).mono ?_); rintro e w' ⟨rfl, x, rfl⟩) | (go_at_call 29; (first | (with_reducible refine (calls_ov2 (szRegion_eq (by first | exact E2 | exact E3) (by first | exact k2 | exact k3) ⟨by omega, by omega⟩)).mono ?_) | refine (calls_ov (szRegion_eq (by first | exact E2 | exact E3) (by first | exact k2 | exact k3) ⟨by omega, by omega⟩)).mono ?_); rintro e w' ⟨rfl, x, rfl⟩))
        go_ret
        exact ⟨rfl, (by repeat (first | exact bR | refine bO ?_ | refine bA ?_ | refine bS ?_ | refine bD ?_ | refine bN ?_))⟩

set_option maxHeartbeats 2000000 in
theorem eqRoom_same {r : RoomV} {A1 A2 A3 B1 B2 B3 : Option Addr} {c1 c2 c3 d1 d2 d3 : Nat} {w : World} (X : RM w r A1 A2 c2 A3 c3) (Y : RM w r B1 B2 d2 B3 d3) (hs : r.Short) :
    Calls Try.prog 18 #[.agg #[.slice A1 r.m.length c1, .int .i64 r.q, .int .i64 r.bx, .int .i64 r.by_, .int .i64 r.lo, .int .i64 r.hi, .slice A2 r.ns.length c2, .slice A3 r.ls.length c3], .agg #[.slice B1 r.m.length d1, .int .i64 r.q, .int .i64 r.bx, .int .i64 r.by_, .int .i64 r.lo, .int .i64 r.hi, .slice B2 r.ns.length d2, .slice B3 r.ls.length d3]] w fun e w' => e = .returned (.bool true) ∧ Below w.heap.size w w' := by
  have k1 := hs.m
  have k2 := hs.ns
  have k3 := hs.ls
  have z1 : (r.q != r.q) = false := by simp
  have z2 : (r.bx != r.bx) = false := by simp
  have z3 : (r.by_ != r.by_) = false := by simp
  have z4 : (r.lo != r.lo) = false := by simp
  have z5 : (r.hi != r.hi) = false := by simp
  clear hs
  go_enter Try.func18, Try.ntmps18
  go_wp2_with (first | (go_at_call 53; (first | (with_reducible refine (calls_ov2 (eqIntS_same (X.mr.below (by repeat (first | exact bR | refine bO ?_ | refine bA ?_ | refine bS ?_ | refine bD ?_ | refine bN ?_))) (Y.mr.below (by repeat (first | exact bR | refine bO ?_ | refine bA ?_ | refine bS ?_ | refine bD ?_ | refine bN ?_))) (by omega))).mono ?_) | refine (calls_ov (eqIntS_same (X.mr.below (by repeat (first | exact bR | refine bO ?_ | refine bA ?_ | refine bS ?_ | refine bD ?_ | refine bN ?_))) (Y.mr.below (by repeat (first | exact bR | refine bO ?_ | refine bA ?_ | refine bS ?_ | refine bD ?_ | refine bN ?_))) (by omega))).mono ?_); rintro e w' ⟨rfl, x, rfl⟩) | (go_at_call 33; (first | (with_reducible refine (calls_ov2 (eqRegion_same (by first | exact X.nr.below (by repeat (first | exact bR | refine bO ?_ | refine bA ?_ | refine bS ?_ | refine bD ?_ | refine bN ?_)) | exact X.lr.below (by repeat (first | exact bR | refine bO ?_ | refine bA ?_ | refine bS ?_ | refine bD ?_ | refine bN ?_))) (by first | exact Y.nr.below (by repeat (first | exact bR | refine bO ?_ | refine bA ?_ | refine bS ?_ | refine bD ?_ | refine bN ?_)) | exact Y.lr.below (by repeat (first | exact bR | refine bO ?_ | refine bA ?_ | refine bS ?_ | refine bD ?_ | refine bN ?_))) (by omega))).mono ?_) | refine (calls_ov (eqRegion_same (by first | exact X.nr.below (by repeat (first | exact bR | refine bO ?_ | refine bA ?_ | refine bS ?_ | refine bD ?_ | refine bN ?_)) | exact X.lr.below (by repeat (first | exact bR | refine bO ?_ | refine bA ?_ | refine bS ?_ | refine bD ?_ | refine bN ?_))) (by first | exact Y.nr.below (by repeat (first | exact bR | refine bO ?_ | refine bA ?_ | refine bS ?_ | refine bD ?_ | refine bN ?_)) | exact Y.lr.below (by repeat (first | exact bR | refine bO ?_ | refine bA ?_ | refine bS ?_ | refine bD ?_ | refine bN ?_))) (by omega))).mono ?_); rintro e w' ⟨rfl, x, rfl⟩))
  go_ret
  exact ⟨rfl, (by repeat (first | exact bR | refine bO ?_ | refine bA ?_ | refine bS ?_ | refine bD ?_ | refine bN ?_))⟩

theorem IB.set_row {g b : Nat} {T : TypeId} {w : World} {xs : List Int} {cur arr : Array Value} {fr : Nat × Nat} (h : IB g w xs) (hb : w.heap[b]? = some (.cells cur T fr)) (hT : T ≠ 3) : IB g (w.setRow b arr) xs := by
  obtain ⟨cu, h1, h2, h3⟩ := h
  refine ⟨cu, ?_, h2, h3⟩
  rw [setRow_other]
  · exact h1
  · rintro rfl
    rw [h1] at hb
    injection hb with hb; injection hb with _ hb; exact hT hb.symm
def GRoom (r : RoomV) (w0 : World) (v : Value) (w : World) : Prop := ∃ a1 d1 A2 d2 A3 d3, v = .agg #[.slice (some ⟨a1, 0, none⟩) r.m.length d1, .int .i64 r.q, .int .i64 r.bx, .int .i64 r.by_, .int .i64 r.lo, .int .i64 r.hi, .slice A2 r.ns.length d2, .slice A3 r.ls.length d3] ∧ RBM w0.heap.size w r a1 A2 d2 A3 d3
theorem owned_room {T : TypeId} (h1 : T ≠ 49) (h2 : T ≠ 3) (r : RoomV) : Owned T (GRoom r) :=
  ⟨fun w0 v w x ⟨a1, d1, A2, d2, A3, d3, e, R⟩ => ⟨a1, d1, A2, d2, A3, d3, e, R.below (below_ov _ _ (Below.refl _ _) (Nat.le_refl _))⟩,
   fun w0 v w b cur arr hb hs ⟨a1, d1, A2, d2, A3, d3, e, R⟩ => ⟨a1, d1, A2, d2, A3, d3, e, ⟨R.lo1, R.ib.set_row hb h2, R.nb.set_row hb h1, R.lb.set_row hb h1, R.ap⟩⟩⟩
theorem owned_regT {T : TypeId} (h1 : T ≠ 49) (xs : List H3) : Owned T (GReg xs) :=
  ⟨fun w0 v w x ⟨A, c, e, R⟩ => ⟨A, c, e, R.below (below_ov _ _ (Below.refl _ _) (Nat.le_refl _))⟩, fun w0 v w b cur arr hb hs ⟨A, c, e, R⟩ => ⟨A, c, e, R.set_row hb h1⟩⟩
/-- What a call leaves that makes a room. -/
def RoomOut (w : World) (r : RoomV) (e : Ending) (w' : World) : Prop := ∃ a1 d1 A2 d2 A3 d3, e = .returned (.agg #[.slice (some ⟨a1, 0, none⟩) r.m.length d1, .int .i64 r.q, .int .i64 r.bx, .int .i64 r.by_, .int .i64 r.lo, .int .i64 r.hi, .slice A2 r.ns.length d2, .slice A3 r.ls.length d3]) ∧ RBM w.heap.size w' r a1 A2 d2 A3 d3 ∧ Below w.heap.size w w'
end Go.Proofs.Ytgdleimdenbnlaa
