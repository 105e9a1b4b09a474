/- Rooms whose three rows lie from a block on, the row of ints with room for more: marked and held; what a call leaves that makes such a room. Condition: rows of at most 2^20. -/
import Derived.Test.YtgdleimdenbnlaaRn
set_option linter.unusedVariables false
set_option linter.unusedSimpArgs false
set_option linter.unusedSectionVars false
namespace Go.Proofs.Ytgdleimdenbnlaa
open Go.ChangeShapes Go.WideShapes Go.ChangeAt Go.RowKit Go.Joins

structure RBO (B : Nat) (w : World) (r : RoomV) (A1 : Option Addr) (c1 : Nat) (A2 : Option Addr) (c2 : Nat) (A3 : Option Addr) (c3 : Nat) : Prop where
  nn : RN B w A1 c1 r.m
  nb : RB B 49 w A2 c2 r.ns
  lb : RB B 49 w A3 c3 r.ls
  ap : Apart A2 A3
theorem RBO.below {B : Nat} {w w' : World} {r : RoomV} {A1 A2 A3 : Option Addr} {c1 c2 c3 : Nat} (h : RBO B w r A1 c1 A2 c2 A3 c3) (hb : Below w.heap.size w w') : RBO B w' r A1 c1 A2 c2 A3 c3 := ⟨h.nn.below hb, h.nb.below hb, h.lb.below hb, h.ap⟩
theorem RBO.weak {B B' : Nat} {w : World} {r : RoomV} {A1 A2 A3 : Option Addr} {c1 c2 c3 : Nat} (h : RBO B w r A1 c1 A2 c2 A3 c3) (hb : B' ≤ B) : RBO B' w r A1 c1 A2 c2 A3 c3 := ⟨h.nn.weak hb, h.nb.weak hb, h.lb.weak hb, h.ap⟩
theorem RBO.rm {B : Nat} {w : World} {r : RoomV} {A1 A2 A3 : Option Addr} {c1 c2 c3 : Nat} (h : RBO B w r A1 c1 A2 c2 A3 c3) : RM w r A1 A2 c2 A3 c3 := ⟨h.nn.ri, h.nb.r3, h.lb.r3⟩
def RoomPost (w : World) (r : RoomV) (ok : Bool) (e : Ending) (w' : World) : Prop := ∃ A1 d1 A2 d2 A3 d3, e = .returned (.tuple #[.agg #[.slice A1 r.m.length d1, .int .i64 r.q, .int .i64 r.bx, .int .i64 r.by_, .int .i64 r.lo, .int .i64 r.hi, .slice A2 r.ns.length d2, .slice A3 r.ls.length d3], .bool ok]) ∧ RBO w.heap.size w' r A1 d1 A2 d2 A3 d3 ∧ Below w.heap.size w w'
def CopyPost (w : World) (r : RoomV) (e : Ending) (w' : World) : Prop := ∃ A1 d1 A2 d2 A3 d3, e = .returned (.agg #[.slice A1 r.m.length d1, .int .i64 r.q, .int .i64 r.bx, .int .i64 r.by_, .int .i64 r.lo, .int .i64 r.hi, .slice A2 r.ns.length d2, .slice A3 r.ls.length d3]) ∧ RBO w.heap.size w' r A1 d1 A2 d2 A3 d3 ∧ Below w.heap.size w w'
def GRoomN (r : RoomV) (w0 : World) (v : Value) (w : World) : Prop := ∃ A1 d1 A2 d2 A3 d3, v = .agg #[.slice A1 r.m.length d1, .int .i64 r.q, .int .i64 r.bx, .int .i64 r.by_, .int .i64 r.lo, .int .i64 r.hi, .slice A2 r.ns.length d2, .slice A3 r.ls.length d3] ∧ RBO w0.heap.size w r A1 d1 A2 d2 A3 d3
def GRTupN (r : RoomV) (ok : Bool) (w0 : World) (v : Value) (w : World) : Prop := ∃ A1 d1 A2 d2 A3 d3, v = .tuple #[.agg #[.slice A1 r.m.length d1, .int .i64 r.q, .int .i64 r.bx, .int .i64 r.by_, .int .i64 r.lo, .int .i64 r.hi, .slice A2 r.ns.length d2, .slice A3 r.ls.length d3], .bool ok] ∧ RBO w0.heap.size w r A1 d1 A2 d2 A3 d3
theorem owned_roomN {T : TypeId} (h1 : T ≠ 49) (h2 : T ≠ 3) (r : RoomV) : Owned T (GRoomN r) :=
  ⟨fun w0 v w x ⟨a1, d1, A2, d2, A3, d3, e, R⟩ => ⟨a1, d1, A2, d2, A3, d3, e, R.below (below_ov _ _ (Below.refl _ _) (Nat.le_refl _))⟩,
   fun w0 v w b cur arr hb hs ⟨a1, d1, A2, d2, A3, d3, e, R⟩ => ⟨a1, d1, A2, d2, A3, d3, e, ⟨R.nn.set_row hb h2, R.nb.set_row hb h1, R.lb.set_row hb h1, R.ap⟩⟩⟩
theorem owned_rtupN {T : TypeId} (h1 : T ≠ 49) (h2 : T ≠ 3) (r : RoomV) (ok : Bool) : Owned T (GRTupN r ok) :=
  ⟨fun w0 v w x ⟨a1, d1, A2, d2, A3, d3, e, R⟩ => ⟨a1, d1, A2, d2, A3, d3, e, R.below (below_ov _ _ (Below.refl _ _) (Nat.le_refl _))⟩,
   fun w0 v w b cur arr hb hs ⟨a1, d1, A2, d2, A3, d3, e, R⟩ => ⟨a1, d1, A2, d2, A3, d3, e, ⟨R.nn.set_row hb h2, R.nb.set_row hb h1, R.lb.set_row hb h1, R.ap⟩⟩⟩
theorem room_cells (A1 : Option Addr) (n1 c1 : Nat) (q bx by_ lo hi : Int) (A2 : Option Addr) (n2 c2 : Nat) (A3 : Option Addr) (n3 c3 : Nat) : (Value.agg #[.slice A1 n1 c1, .int .i64 q, .int .i64 bx, .int .i64 by_, .int .i64 lo, .int .i64 hi, .slice A2 n2 c2, .slice A3 n3 c3]).cells.size = 8 ∧ ∀ x ∈ (Value.agg #[.slice A1 n1 c1, .int .i64 q, .int .i64 bx, .int .i64 by_, .int .i64 lo, .int .i64 hi, .slice A2 n2 c2, .slice A3 n3 c3]).cells.toList, x.oneCell' = true := ⟨rfl, by simp [Value.cells, Value.oneCell']⟩
theorem RN.grown_n {B B1 n c2 : Nat} {w w' w1 : World} {A A1 : Option Addr} {c c1 : Nat} {xs ys : List Int} (h : RN B w A c xs) (h1 : RN B1 w1 A1 c1 ys) (hg : w.grownBy w' (Value.slice A1 n c2).ownBlock) (ap : Apart A1 A) : RN B w' A c xs :=
  h.grown hg fun k hk e => by
    rcases h1.form with e3 | ⟨g', e3⟩
    · subst e3; cases e
    · subst e3
      injection e with e
      subst e
      exact ap _ rfl hk
theorem apart_newN {B B' : Nat} {W W' : World} {A A' : Option Addr} {c c' : Nat} {xs ys : List Int} (h : RN B W A c xs) (h2 : RN B' W' A' c' ys) (hB : W.heap.size ≤ B') : Apart A A' := fun k h1 h3 => by
  have := (h.ad k h1).2
  have := (h2.ad k h3).1
  omega

set_option maxRecDepth 100000 in
set_option maxHeartbeats 8000000 in
theorem markRoom_own {r : RoomV} {B : Nat} {A1 A2 A3 : Option Addr} {c1 c2 c3 : Nat} {w : World} {kk : Int} (I : RN B w A1 c1 r.m) (N : RB B 49 w A2 c2 r.ns) (L : RB B 49 w A3 c3 r.ls) (ap : Apart A2 A3) (hs : r.Short) (hkk : 0 ≤ kk ∧ kk ≤ 1000000000) :
    Calls Try.prog 34 #[.agg #[.slice A1 r.m.length c1, .int .i64 r.q, .int .i64 r.bx, .int .i64 r.by_, .int .i64 r.lo, .int .i64 r.hi, .slice A2 r.ns.length c2, .slice A3 r.ls.length c3], .int .i64 kk] w fun e w' => e = .returned (.int .i64 (kk + r.m.length + r.ns.length * 3 + r.ls.length * 3)) ∧ (∃ w1 w2, w.grownBy w1 (Value.slice A1 r.m.length c1).ownBlock ∧ w1.grownBy w2 (Value.slice A2 r.ns.length c2).ownBlock ∧ w2.grownBy w' (Value.slice A3 r.ls.length c3).ownBlock) ∧ RN B w' A1 c1 (marksI kk r.m.length) ∧ RB B 49 w' A2 c2 (marks (kk + r.m.length) r.ns.length) ∧ RB B 49 w' A3 c3 (marks (kk + r.m.length + r.ns.length * 3) r.ls.length) := by
  have k1 := hs.m
  have k2 := hs.ns
  have k3 := hs.ls
  go_enter Try.func34, Try.ntmps34
  go_wp2_with fail
  obtain ⟨V, hV⟩ : ∃ V, V = w.alloc (.cells #[.slice A1 r.m.length c1, .int .i64 r.q, .int .i64 r.bx, .int .i64 r.by_, .int .i64 r.lo, .int .i64 r.hi, .slice A2 r.ns.length c2, .slice A3 r.ls.length c3] 36) := ⟨_, rfl⟩
  rw [← hV]
  have T0 : Below w.heap.size w V := by rw [hV]; exact (by repeat (first | exact bR | refine bO ?_ | refine bA ?_ | refine bS ?_ | refine bD ?_ | refine bN ?_))
  have X0 := Lib.hid (show V.heap[w.heap.size]? = some (.cells #[.slice A1 r.m.length c1, .int .i64 r.q, .int .i64 r.bx, .int .i64 r.by_, .int .i64 r.lo, .int .i64 r.hi, .slice A2 r.ns.length c2, .slice A3 r.ls.length c3] 36 (0, 0)) by rw [hV]; exact heap_new_at (by simp) rfl)
  clear hV
  obtain ⟨b0, e0⟩ : ∃ b, w.heap.size = b := ⟨_, rfl⟩
  rw [e0] at X0 ⊢
  replace I := I.below T0
  replace N := N.below T0
  replace L := L.below T0
  refine (markIntS_own (I.below (by repeat (first | exact bR | refine bO ?_ | refine bA ?_ | refine bS ?_ | refine bD ?_ | refine bN ?_))) k1 ⟨by omega, by omega⟩).mono ?_
  rintro e W1 ⟨rfl, Y, hg⟩
  have K1 : V.grownBy W1 _ := grown_pre (by exact (by repeat (first | exact bR | refine bO ?_ | refine bA ?_ | refine bS ?_ | refine bD ?_ | refine bN ?_))) hg
  have G1 := Lib.hid (grown_pre T0 K1)
  clear hg T0
  replace X0 := box_grown X0 K1 (I.ne_box X0.out (by decide))
  replace N := N.grown_n I K1 (by decide)
  replace L := L.grown_n I K1 (by decide)
  clear I K1
  have x6 := cell_blk (j := 6) (v := .slice A2 r.ns.length c2) X0.out rfl
  have x7 := cell_blk (j := 7) (v := .slice A3 r.ls.length c3) X0.out rfl
  have xl := (Array.getElem?_eq_some_iff.1 X0.out).1
  go_wp2_with fail
  clear x6 x7 xl
  refine (markRegion_any (N.below (by repeat (first | exact bR | refine bO ?_ | refine bA ?_ | refine bS ?_ | refine bD ?_ | refine bN ?_))) (by omega) ⟨by omega, by omega⟩).mono ?_
  rintro e W2 ⟨rfl, YN, hg⟩
  have K2 : W1.grownBy W2 _ := grown_pre (by exact (by repeat (first | exact bR | refine bO ?_ | refine bA ?_ | refine bS ?_ | refine bD ?_ | refine bN ?_))) hg
  clear hg
  replace X0 := box_grown X0 K2 (N.ne_box X0.out (by decide))
  replace L := L.grown N K2 ap
  replace Y := Y.grown K2 (fun k hk => Y.ne_n N (by decide) hk)
  have G2 := Lib.hid K2
  clear K2 N
  have x7 := cell_blk (j := 7) (v := .slice A3 r.ls.length c3) X0.out rfl
  have xl := (Array.getElem?_eq_some_iff.1 X0.out).1
  go_wp2_with fail
  clear x7 xl
  refine (markRegion_any (L.below (by repeat (first | exact bR | refine bO ?_ | refine bA ?_ | refine bS ?_ | refine bD ?_ | refine bN ?_))) (by omega) ⟨by omega, by omega⟩).mono ?_
  rintro e W3 ⟨rfl, YL, hg⟩
  have K3 : W2.grownBy W3 _ := grown_pre (by exact (by repeat (first | exact bR | refine bO ?_ | refine bA ?_ | refine bS ?_ | refine bD ?_ | refine bN ?_))) hg
  clear hg
  replace YN := YN.grown L K3 ap.symm
  replace Y := Y.grown K3 (fun k hk => Y.ne_n L (by decide) hk)
  have G3 := Lib.hid K3
  clear K3 L
  go_wp2
  go_ret
  exact ⟨rfl, ⟨W1, W2, G1.out, G2.out, G3.out⟩, Y, YN, YL⟩

set_option maxRecDepth 100000 in
set_option maxHeartbeats 2000000 in
theorem heldRoom_own {q bx by_ lo hi : Int} {m n l : Nat} {A1 A2 A3 : Option Addr} {c1 c2 c3 : Nat} {w : World} (I : RI w A1 (marksI 1 m)) (N : R3 49 w A2 c2 (marks (1 + m) n)) (L : R3 49 w A3 c3 (marks (1 + m + n * 3) l)) (hm : m ≤ 1048576) (hn : n ≤ 1048576) (hl : l ≤ 1048576) :
    Calls Try.prog 36 #[.agg #[.slice A1 m c1, .int .i64 q, .int .i64 bx, .int .i64 by_, .int .i64 lo, .int .i64 hi, .slice A2 n c2, .slice A3 l c3], .int .i64 1] w fun e w' => e = .returned (.int .i64 (1 + m + n * 3 + l * 3)) ∧ Below w.heap.size w w' := by
  go_enter Try.func36, Try.ntmps36
  go_wp2_with fail
  refine (calls_ov (heldIntS_any (I.below (by repeat (first | exact bR | refine bO ?_ | refine bA ?_ | refine bS ?_ | refine bD ?_ | refine bN ?_))) hm ⟨by omega, by omega⟩)).mono ?_
  rintro e w' ⟨rfl, x, rfl⟩
  obtain ⟨k1, hk1⟩ : ∃ k : Int, 1 + (m : Int) = k := ⟨_, rfl⟩
  have z1 : ¬ k1 < 0 := by omega
  have y1 : 0 ≤ k1 ∧ k1 ≤ 1000000000000 := by omega
  rw [hk1] at N L ⊢
  go_wp2_with fail
  refine (calls_ov (heldRegion_k (N.below (by repeat (first | exact bR | refine bO ?_ | refine bA ?_ | refine bS ?_ | refine bD ?_ | refine bN ?_))) hn y1)).mono ?_
  rintro e w' ⟨rfl, x, rfl⟩
  obtain ⟨k2, hk2⟩ : ∃ k : Int, k1 + (n : Int) * 3 = k := ⟨_, rfl⟩
  have z2 : ¬ k2 < 0 := by omega
  have y2 : 0 ≤ k2 ∧ k2 ≤ 1000000000000 := by omega
  rw [hk2] at L ⊢
  go_wp2_with fail
  refine (calls_ov (heldRegion_k (L.below (by repeat (first | exact bR | refine bO ?_ | refine bA ?_ | refine bS ?_ | refine bD ?_ | refine bN ?_))) hl y2)).mono ?_
  rintro e w' ⟨rfl, x, rfl⟩
  obtain ⟨k3, hk3⟩ : ∃ k : Int, k2 + (l : Int) * 3 = k := ⟨_, rfl⟩
  have z3 : ¬ k3 < 0 := by omega
  rw [hk3]
  go_wp2
  go_ret
  exact ⟨by rw [hk1, hk2, hk3]; rfl, (by repeat (first | exact bR | refine bO ?_ | refine bA ?_ | refine bS ?_ | refine bD ?_ | refine bN ?_))⟩
end Go.Proofs.Ytgdleimdenbnlaa
