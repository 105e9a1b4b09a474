/- Rooms in the laws: the argument opened, its size, the copy, the comparison. Condition: rows of at most 2^20 where said. -/
import Derived.Test.YtabmfaamadbefaaPq
import Derived.Test.YtabmfaamadbefaaCg
set_option linter.unusedVariables false
set_option linter.unusedSimpArgs false
set_option linter.unusedSectionVars false
namespace Go.Proofs.Ytabmfaamadbefaa
open Go.ChangeShapes Go.WideShapes Go.ChangeAt Go.RowKit Go.Joins Go.Deep

structure RoomV where
  m : List Int
  q : Int
  bx : Int
  by_ : Int
  lo : Int
  hi : Int
  ns : List H3
  ls : List H3
structure RoomV.InL (r : RoomV) : Prop where
  m : r.m.length ≤ 9223372036854775807
  q : -9223372036854775808 ≤ r.q ∧ r.q ≤ 9223372036854775807
  bx : -9223372036854775808 ≤ r.bx ∧ r.bx ≤ 9223372036854775807
  by_ : -9223372036854775808 ≤ r.by_ ∧ r.by_ ≤ 9223372036854775807
  lo : -9223372036854775808 ≤ r.lo ∧ r.lo ≤ 9223372036854775807
  hi : -9223372036854775808 ≤ r.hi ∧ r.hi ≤ 9223372036854775807
  ns : r.ns.length ≤ 9223372036854775807
  ls : r.ls.length ≤ 9223372036854775807
/-- Short rows. -/
structure RoomV.Short (r : RoomV) : Prop where
  m : r.m.length ≤ 1048576
  ns : r.ns.length ≤ 1048576
  ls : r.ls.length ≤ 1048576
def RLM (w : World) (r : RoomV) (A1 A2 A3 : Option Addr) : Prop := RI w A1 r.m ∧ RL w A2 r.ns ∧ RL w A3 r.ls
theorem RLM.below {w w' : World} {r : RoomV} {A1 A2 A3 : Option Addr} (h : RLM w r A1 A2 A3) (hb : Below w.heap.size w w') : RLM w' r A1 A2 A3 := ⟨h.1.below hb, h.2.1.below hb, h.2.2.below hb⟩
/-- A room's rows, at any address. -/
structure RM (w : World) (r : RoomV) (A1 A2 : Option Addr) (c2 : Nat) (A3 : Option Addr) (c3 : Nat) : Prop where
  mr : RI w A1 r.m
  nr : R3 36 w A2 c2 r.ns
  lr : R3 36 w A3 c3 r.ls
theorem RM.below {w w' : World} {r : RoomV} {A1 A2 A3 : Option Addr} {c2 c3 : Nat} (h : RM w r A1 A2 c2 A3 c3) (hb : Below w.heap.size w w') : RM w' r A1 A2 c2 A3 c3 := ⟨h.mr.below hb, h.nr.below hb, h.lr.below hb⟩
/-- A room's rows, each in a block of its own. -/
structure RBM (B : Nat) (w : World) (r : RoomV) (a1 : Nat) (A2 : Option Addr) (c2 : Nat) (A3 : Option Addr) (c3 : Nat) : Prop where
  lo1 : B ≤ a1
  ib : IB a1 w r.m
  nb : RB B 36 w A2 c2 r.ns
  lb : RB B 36 w A3 c3 r.ls
  ap : Apart A2 A3
theorem RBM.below {B : Nat} {w w' : World} {r : RoomV} {a1 : Nat} {A2 A3 : Option Addr} {c2 c3 : Nat} (h : RBM B w r a1 A2 c2 A3 c3) (hb : Below w.heap.size w w') : RBM B w' r a1 A2 c2 A3 c3 := ⟨h.lo1, h.ib.below hb, h.nb.below hb, h.lb.below hb, h.ap⟩
theorem RBM.weak {B B' : Nat} {w : World} {r : RoomV} {a1 : Nat} {A2 A3 : Option Addr} {c2 c3 : Nat} (h : RBM B w r a1 A2 c2 A3 c3) (hb : B' ≤ B) : RBM B' w r a1 A2 c2 A3 c3 := ⟨Nat.le_trans hb h.lo1, h.ib, h.nb.weak hb, h.lb.weak hb, h.ap⟩
theorem RBM.rm {B : Nat} {w : World} {r : RoomV} {a1 : Nat} {A2 A3 : Option Addr} {c2 c3 : Nat} (h : RBM B w r a1 A2 c2 A3 c3) : RM w r (some ⟨a1, 0, none⟩) A2 c2 A3 c3 := ⟨h.ib.ri, h.nb.r3, h.lb.r3⟩

section
variable {H : Type} {enc : TypeId × Value → H} {w : World} {base : Nat} {spare : Nat → Bool} {held : Bool} {n : Nat}
theorem cells_ints : Try.prog.cellsOf 108 = 1 := by kernel_rfl
end

def szRm (r : RoomV) (left : Int) : Int := szL r.ls.length (szL r.ns.length (szL r.m.length left))
theorem szL_neg {n : Nat} {l : Int} (h : l < 0) : szL n l = -1 := by unfold szL; rw [if_pos (by omega)]
theorem szL_le {n : Nat} {l : Int} (h : ¬ szL n l < 0) : szL n l = l - n := by
  unfold szL at *
  split at h
  · omega
  · rename_i k; rw [if_neg k]
theorem szL_neg1 {n : Nat} {l : Int} (h : szL n l < 0) : szL n l = -1 := by
  unfold szL at *
  split at h
  · rename_i k; rw [if_pos k]
  · omega
theorem szRm_bd {r : RoomV} {left z : Int} (h : szRm r left = z) (hz : ¬ z < 0) (hl : left ≤ 1048576) : r.m.length ≤ 1048576 ∧ r.ns.length ≤ 1048576 ∧ r.ls.length ≤ 1048576 ∧ z ≤ 1048576 := by
  unfold szRm at h
  subst h
  have a := szL_le hz
  by_cases h2 : szL r.ns.length (szL r.m.length left) < 0
  · exact absurd (by rw [szL_neg h2]; decide) hz
  have b := szL_le h2
  by_cases h1 : szL r.m.length left < 0
  · exact absurd (by rw [szL_neg h1]; decide) h2
  have c := szL_le h1
  omega
theorem IB.set_row {g b : Nat} {T : TypeId} {w : World} {xs : List Int} {cur arr : Array Value} {fr : Nat × Nat} (h : IB g w xs) (hb : w.heap[b]? = some (.cells cur T fr)) (hT : T ≠ 3) : IB g (w.setRow b arr) xs := by
  obtain ⟨cu, h1, h2, h3⟩ := h
  refine ⟨cu, ?_, h2, h3⟩
  rw [setRow_other]
  · exact h1
  · rintro rfl
    rw [h1] at hb
    injection hb with hb; injection hb with _ hb; exact hT hb.symm
def GRoom (r : RoomV) (w0 : World) (v : Value) (w : World) : Prop := ∃ a1 d1 A2 d2 A3 d3, v = .agg #[.slice (some ⟨a1, 0, none⟩) r.m.length d1, .int .i64 r.q, .int .i64 r.bx, .int .i64 r.by_, .int .i64 r.lo, .int .i64 r.hi, .slice A2 r.ns.length d2, .slice A3 r.ls.length d3] ∧ RBM w0.heap.size w r a1 A2 d2 A3 d3
theorem owned_room {T : TypeId} (h1 : T ≠ 36) (h2 : T ≠ 3) (r : RoomV) : Owned T (GRoom r) :=
  ⟨fun w0 v w x ⟨a1, d1, A2, d2, A3, d3, e, R⟩ => ⟨a1, d1, A2, d2, A3, d3, e, R.below (below_ov _ _ (Below.refl _ _) (Nat.le_refl _))⟩,
   fun w0 v w b cur arr hb hs ⟨a1, d1, A2, d2, A3, d3, e, R⟩ => ⟨a1, d1, A2, d2, A3, d3, e, ⟨R.lo1, R.ib.set_row hb h2, R.nb.set_row hb h1, R.lb.set_row hb h1, R.ap⟩⟩⟩
theorem owned_regT {T : TypeId} (h1 : T ≠ 36) (xs : List H3) : Owned T (GReg xs) :=
  ⟨fun w0 v w x ⟨A, c, e, R⟩ => ⟨A, c, e, R.below (below_ov _ _ (Below.refl _ _) (Nat.le_refl _))⟩, fun w0 v w b cur arr hb hs ⟨A, c, e, R⟩ => ⟨A, c, e, R.set_row hb h1⟩⟩
/-- What a call leaves that makes a room. -/
def RoomOut (w : World) (r : RoomV) (e : Ending) (w' : World) : Prop := ∃ a1 d1 A2 d2 A3 d3, e = .returned (.agg #[.slice (some ⟨a1, 0, none⟩) r.m.length d1, .int .i64 r.q, .int .i64 r.bx, .int .i64 r.by_, .int .i64 r.lo, .int .i64 r.hi, .slice A2 r.ns.length d2, .slice A3 r.ls.length d3]) ∧ RBM w.heap.size w' r a1 A2 d2 A3 d3 ∧ Below w.heap.size w w'
end Go.Proofs.Ytabmfaamadbefaa
