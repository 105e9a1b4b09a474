/- Contracts of the laws' markRoom, and of Kept compared, marked and held. Condition: rows of at most 2^20. -/
import Derived.Test.YtgdleimdenbnlaaKt
set_option linter.unusedVariables false
set_option linter.unusedSimpArgs false
set_option linter.unusedSectionVars false
namespace Go.Proofs.Ytgdleimdenbnlaa
open Go.ChangeShapes Go.WideShapes Go.ChangeAt Go.RowKit Go.Joins

set_option maxRecDepth 100000 in
set_option maxHeartbeats 8000000 in
theorem markRoom_any {r : RoomV} {B a1 : Nat} {A2 A3 : Option Addr} {c1 c2 c3 : Nat} {w : World} {kk : Int} (I : IB a1 w r.m) (N : RB B 49 w A2 c2 r.ns) (L : RB B 49 w A3 c3 r.ls) (ap : Apart A2 A3) (hs : r.Short) (hkk : 0 ≤ kk ∧ kk ≤ 1000000000) :
    Calls Try.prog 34 #[.agg #[.slice (some ⟨a1, 0, none⟩) r.m.length c1, .int .i64 r.q, .int .i64 r.bx, .int .i64 r.by_, .int .i64 r.lo, .int .i64 r.hi, .slice A2 r.ns.length c2, .slice A3 r.ls.length c3], .int .i64 kk] w fun e w' => e = .returned (.int .i64 (kk + r.m.length + r.ns.length * 3 + r.ls.length * 3)) ∧ ∃ w1 w2, w.grownBy w1 (some a1) ∧ w1.grownBy w2 (Value.slice A2 r.ns.length c2).ownBlock ∧ w2.grownBy w' (Value.slice A3 r.ls.length c3).ownBlock := by
  have k1 := hs.m
  have k2 := hs.ns
  have k3 := hs.ls
  go_enter Try.func34, Try.ntmps34
  go_wp2_with fail
  obtain ⟨V, hV⟩ : ∃ V, V = w.alloc (.cells #[.slice (some ⟨a1, 0, none⟩) r.m.length c1, .int .i64 r.q, .int .i64 r.bx, .int .i64 r.by_, .int .i64 r.lo, .int .i64 r.hi, .slice A2 r.ns.length c2, .slice A3 r.ls.length c3] 36) := ⟨_, rfl⟩
  rw [← hV]
  have T0 : Below w.heap.size w V := by rw [hV]; exact (by repeat (first | exact bR | refine bO ?_ | refine bA ?_ | refine bS ?_ | refine bD ?_ | refine bN ?_))
  have X0 := Lib.hid (show V.heap[w.heap.size]? = some (.cells #[.slice (some ⟨a1, 0, none⟩) r.m.length c1, .int .i64 r.q, .int .i64 r.bx, .int .i64 r.by_, .int .i64 r.lo, .int .i64 r.hi, .slice A2 r.ns.length c2, .slice A3 r.ls.length c3] 36 (0, 0)) by rw [hV]; exact heap_new_at (by simp) rfl)
  clear hV
  obtain ⟨b0, e0⟩ : ∃ b, w.heap.size = b := ⟨_, rfl⟩
  rw [e0] at X0 ⊢
  replace I := I.below T0
  replace N := N.below T0
  replace L := L.below T0
  refine (markIntS_any (I.below (by repeat (first | exact bR | refine bO ?_ | refine bA ?_ | refine bS ?_ | refine bD ?_ | refine bN ?_))) k1 ⟨by omega, by omega⟩).mono ?_
  rintro e W1 ⟨rfl, hg⟩
  have K1 : V.grownBy W1 _ := grown_pre (by exact (by repeat (first | exact bR | refine bO ?_ | refine bA ?_ | refine bS ?_ | refine bD ?_ | refine bN ?_))) hg
  have G1 := Lib.hid (grown_pre T0 K1)
  clear hg T0
  replace X0 := box_grown_i X0 K1 (I.ne X0.out (by decide))
  replace N := N.grown_i K1 (I.apart N (by decide))
  replace L := L.grown_i K1 (I.apart L (by decide))
  clear I K1
  have x6 := cell_blk (j := 6) (v := .slice A2 r.ns.length c2) X0.out rfl
  have x7 := cell_blk (j := 7) (v := .slice A3 r.ls.length c3) X0.out rfl
  have xl := (Array.getElem?_eq_some_iff.1 X0.out).1
  go_wp2_with fail
  clear x6 x7 xl
  refine (markRegion_any (N.below (by repeat (first | exact bR | refine bO ?_ | refine bA ?_ | refine bS ?_ | refine bD ?_ | refine bN ?_))) (by omega) ⟨by omega, by omega⟩).mono ?_
  rintro e W2 ⟨rfl, _, hg⟩
  have K2 : W1.grownBy W2 _ := grown_pre (by exact (by repeat (first | exact bR | refine bO ?_ | refine bA ?_ | refine bS ?_ | refine bD ?_ | refine bN ?_))) hg
  clear hg
  replace X0 := box_grown X0 K2 (N.ne_box X0.out (by decide))
  replace L := L.grown N K2 ap
  have G2 := Lib.hid K2
  clear K2 N
  have x7 := cell_blk (j := 7) (v := .slice A3 r.ls.length c3) X0.out rfl
  have xl := (Array.getElem?_eq_some_iff.1 X0.out).1
  go_wp2_with fail
  clear x7 xl
  refine (markRegion_any (L.below (by repeat (first | exact bR | refine bO ?_ | refine bA ?_ | refine bS ?_ | refine bD ?_ | refine bN ?_))) (by omega) ⟨by omega, by omega⟩).mono ?_
  rintro e W3 ⟨rfl, _, hg⟩
  have K3 : W2.grownBy W3 _ := grown_pre (by exact (by repeat (first | exact bR | refine bO ?_ | refine bA ?_ | refine bS ?_ | refine bD ?_ | refine bN ?_))) hg
  clear hg
  have G3 := Lib.hid K3
  clear K3 L
  go_wp2
  go_ret
  exact ⟨rfl, W1, W2, G1.out, G2.out, G3.out⟩

/-- What a call leaves that makes a Kept. -/
def KeptPost (w : World) (out : List H3) (kn : Int) (ks ok : Bool) (e : Ending) (w' : World) : Prop := ∃ A c, e = .returned (.tuple #[.agg #[.slice A out.length c, .int .i64 kn, .bool ks], .bool ok]) ∧ RB w.heap.size 49 w' A c out ∧ Below w.heap.size w w'
def GKTup (xs : List H3) (kn : Int) (ks ok : Bool) (w0 : World) (v : Value) (w : World) : Prop := ∃ A c, v = .tuple #[.agg #[.slice A xs.length c, .int .i64 kn, .bool ks], .bool ok] ∧ RB w0.heap.size 49 w A c xs
def GKept (xs : List H3) (kn : Int) (ks : Bool) (w0 : World) (v : Value) (w : World) : Prop := ∃ A c, v = .agg #[.slice A xs.length c, .int .i64 kn, .bool ks] ∧ RB w0.heap.size 49 w A c xs
theorem owned_ktup {T : TypeId} (h : T ≠ 49) (xs : List H3) (kn : Int) (ks ok : Bool) : Owned T (GKTup xs kn ks ok) :=
  ⟨fun w0 v w x ⟨A, c, e, R⟩ => ⟨A, c, e, R.below (below_ov _ _ (Below.refl _ _) (Nat.le_refl _))⟩, fun w0 v w b cur arr hb hs ⟨A, c, e, R⟩ => ⟨A, c, e, R.set_row hb h⟩⟩
theorem owned_kept {T : TypeId} (h : T ≠ 49) (xs : List H3) (kn : Int) (ks : Bool) : Owned T (GKept xs kn ks) :=
  ⟨fun w0 v w x ⟨A, c, e, R⟩ => ⟨A, c, e, R.below (below_ov _ _ (Below.refl _ _) (Nat.le_refl _))⟩, fun w0 v w b cur arr hb hs ⟨A, c, e, R⟩ => ⟨A, c, e, R.set_row hb h⟩⟩
theorem owned_tupT {T : TypeId} (h : T ≠ 49) (xs : List H3) (ok : Bool) : Owned T (GTup xs ok) :=
  ⟨fun w0 v w x ⟨A, c, e, R⟩ => ⟨A, c, e, R.below (below_ov _ _ (Below.refl _ _) (Nat.le_refl _))⟩, fun w0 v w b cur arr hb hs ⟨A, c, e, R⟩ => ⟨A, c, e, R.set_row hb h⟩⟩
theorem kept_cells (A : Option Addr) (n c : Nat) (kn : Int) (ks : Bool) : (Value.agg #[.slice A n c, .int .i64 kn, .bool ks]).cells.size = 3 ∧ ∀ x ∈ (Value.agg #[.slice A n c, .int .i64 kn, .bool ks]).cells.toList, x.oneCell' = true := ⟨rfl, by simp [Value.cells, Value.oneCell']⟩
end Go.Proofs.Ytgdleimdenbnlaa
