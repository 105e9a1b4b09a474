/- Rows, boxes and the cursor through a world that changed one block. No condition. -/
import Derived.Test.YtabmfaamadbefaaGreatMj
import Derived.Test.YtabmfaamadbefaaGreatHsp
set_option linter.unusedVariables false
set_option linter.unusedSimpArgs false
set_option linter.unusedSectionVars false
namespace Go.Proofs.YtabmfaamadbefaaGreat
open Go.ChangeShapes Go.WideShapes Go.ChangeAt Go.RowKit Go.Joins
theorem RB.thru {B b : Nat} {E T : TypeId} {w w' : World} {A : Option Addr} {c : Nat} {xs : List H3} {arr : Array Value} {fr : Nat × Nat} (h : RB B E w A c xs) (K : w.grownBy w' (some b)) (hb : w.heap[b]? = some (.cells arr T fr)) (hT : T ≠ E) : RB B E w' A c xs := by
  refine ⟨h.1, ?_⟩
  rcases h.2 with e | ⟨g, cap, cu, e1, hgB, hh, hr⟩
  · exact .inl e
  · refine .inr ⟨g, cap, cu, e1, hgB, (K.block g (Array.getElem?_eq_some_iff.1 hh).1 (fun e => ?_)).trans hh, hr⟩
    injection e with e
    subst e
    rw [hh] at hb
    injection hb with hb; injection hb with _ hb; exact hT hb.symm
theorem box_thru {W W' : World} {b k : Nat} {o : Obj} (h : Hid (W.heap[k]? = some o)) (K : W.grownBy W' (some b)) (hne : k ≠ b) : Hid (W'.heap[k]? = some o) := box_grown_i h K (fun e => hne (by injection e))
theorem k8 {w : World} {b : Nat} {v0 v1 v2 v3 v4 v5 v6 v7 : Value} : w.grownBy ((((((((w.setCell ⟨b, 0, none⟩ v0).setCell ⟨b, 1, none⟩ v1).setCell ⟨b, 2, none⟩ v2).setCell ⟨b, 3, none⟩ v3).setCell ⟨b, 4, none⟩ v4).setCell ⟨b, 5, none⟩ v5).setCell ⟨b, 6, none⟩ v6).setCell ⟨b, 7, none⟩ v7) (some b) :=
  grownBy_set (grownBy_set (grownBy_set (grownBy_set (grownBy_set (grownBy_set (grownBy_set (grownBy_set (grownBy_of_below (Below.refl _ _)))))))))
theorem set_grown {w : World} {b i : Nat} {v : Value} : w.grownBy (w.setCell ⟨b, i, none⟩ v) (some b) := grownBy_set (grownBy_of_below (Below.refl _ _))
theorem IB.thru {g b : Nat} {T : TypeId} {w w' : World} {xs : List Int} {arr : Array Value} {fr : Nat × Nat} (h : IB g w xs) (K : w.grownBy w' (some b)) (hb : w.heap[b]? = some (.cells arr T fr)) (hT : T ≠ 3) : IB g w' xs := h.grown K (h.ne hb hT).symm
theorem IB.thruC {g b c : Nat} {A : Option Addr} {bs : List Int} {w w' : World} {xs : List Int} (h : IB g w xs) (C : CurE b A c bs w) (K : w.grownBy w' (some b)) : IB g w' xs := by
  obtain ⟨i, y, _, hb⟩ := C
  exact h.thru K hb (by decide)
theorem RY.thruN {w0 w w' : World} {A : Option Addr} {bs : List Int} {b : Nat} (h : RY w A bs) (h0 : RY w0 A bs) (hb : w0.heap.size ≤ b) (K : w.grownBy w' (some b)) : RY w' A bs := fun k hk => by
  obtain ⟨g, o, h1, h2, h3, h4⟩ := h k hk
  obtain ⟨g', o', h1', h2', _⟩ := h0 k hk
  have e : g = g' := by rw [h1] at h1'; injection h1' with e; injection e
  have hne : some g ≠ some b := fun e => by injection e with e; omega
  refine ⟨g, o, h1, Nat.lt_of_lt_of_le h2 K.size, ?_, h4⟩
  rw [← h3]
  exact World.cell?_of_block (K.block g h2 hne)
theorem CurE.thruN {b c r : Nat} {A : Option Addr} {bs : List Int} {w w' : World} (h : CurE b A c bs w) (K : w.grownBy w' (some r)) (hne : b ≠ r) : CurE b A c bs w' := by
  obtain ⟨k, h0, hi, hh⟩ := h
  exact ⟨k, h0, hi, (K.block b (Array.getElem?_eq_some_iff.1 hh).1 (fun e => hne (by injection e))).trans hh⟩
theorem gb_thruN {w W W' : World} {o : Option Nat} {r : Nat} (G : w.grownBy W o) (K : W.grownBy W' (some r)) (hr : w.heap.size ≤ r) : w.grownBy W' o :=
  ⟨K.os.trans G.os, K.tape.trans G.tape, K.output.trans G.output, Nat.le_trans G.size K.size, fun k hk hne => (K.block k (Nat.lt_of_lt_of_le hk G.size) (fun e => by injection e with e; omega)).trans (G.block k hk hne)⟩
set_option maxHeartbeats 2000000 in
theorem l01Once_any {b c : Nat} {A : Option Addr} {bs : List Int} {n : Int} {w : World} (R : RY w A bs) (C : CurE b A c bs w) (hl : bs.length ≤ 1048576) (hn : 0 < n ∧ n ≤ 256) :
    Calls Tryz.prog 83 #[.pointer (some ⟨b, 0, none⟩), .int .i64 n] w (fun e w' => ∃ v : Bool, e = .returned (.bool v) ∧ CurE b A c bs w' ∧ w.grownBy w' (some b)) := by
  go_enter Tryz.func83, Tryz.ntmps83
  go_wp2_with fail
  refine (below_small R C hl ⟨by omega, by omega⟩).mono ?_
  rintro e W1 ⟨x, rfl, ⟨x0, x1⟩, C1, K⟩
  go_wp2
  go_ret
  exact ⟨_, rfl, C1, K⟩
end Go.Proofs.YtabmfaamadbefaaGreat