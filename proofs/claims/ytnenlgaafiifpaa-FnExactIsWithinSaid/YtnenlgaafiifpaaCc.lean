/- Contracts of slices.Grow at nil and of slices.Concat at two rows. Condition: both rows have elements, and few. -/
import Derived.Test.YtnenlgaafiifpaaIns
import Derived.Test.YtnenlgaafiifpaaRst
import Derived.LoopN
set_option linter.unusedSimpArgs false
set_option linter.unusedVariables false
set_option linter.unusedSectionVars false
namespace Go.Proofs.Ytnenlgaafiifpaa
open Go.RowKit

def GrowPost (w : World) (e : Ending) (w' : World) : Prop := ∃ v, e = .returned v ∧ w'.ownsRow w.heap.size 38 3 v 0 [] ∧ Below w.heap.size w w' ∧ ∃ g c, v = .slice (some ⟨g, 0, none⟩) 0 c

set_option maxRecDepth 100000 in
set_option maxHeartbeats 4000000 in
theorem Grow_nil {z : Int} {w : World} (hz : 0 < z ∧ z ≤ 1000) :
    Calls Try.prog 109 #[.slice none 0 0, .int .i64 z] w (GrowPost w) := by
  obtain ⟨i0, hi, hz0, hz1, hz2⟩ := info_parts info_half
  obtain ⟨n, rfl⟩ : ∃ n : Nat, z = n := ⟨z.toNat, by omega⟩
  have hr := fun ty => Lib.run_append_nil_zeros w 26 3 ty 38 i0 _ .i64 .i64 Try.underlying26 Try.underlying3 hi hz0 n (by omega) (by omega) (by omega) (by rw [hz2]; omega)
  obtain ⟨G, hG⟩ : ∃ G, grownCap w n 0 38 = G := ⟨_, rfl⟩
  have hG1 : n ≤ G := by rw [← hG]; exact grownCap_ge w _ _ _
  have hG2 : G ≤ maxLen := by rw [← hG]; exact grownCap_le_maxLen w _ _ _ (by unfold maxLen; omega)
  rw [hG] at hr
  obtain ⟨R, hR⟩ : ∃ R : Array Value, Builtin.zeroCells (Value.agg #[.int .i64 0, .int .i64 0, .int .i64 0]).cells n ++ Builtin.zeroCells (Value.agg #[.int .i64 0, .int .i64 0, .int .i64 0]).cells (G - n) = R := ⟨_, rfl⟩
  have hRs : R.size = G * 3 := by
    have s3 : (Value.agg #[.int .i64 0, .int .i64 0, .int .i64 0]).cells.size = 3 := rfl
    rw [← hR]
    simp only [Array.size_append, size_zeroCells, s3]
    omega
  rw [hR] at hr
  have HR := Lib.hid hr
  have HS := Lib.hid hRs
  have h0 : (0 : Int) < n := hz.1
  have hG1' : (0 : Int) ≤ G := by omega
  unfold maxLen at hG2
  clear hr hR hG hRs
  go_enter Try.func109, Try.ntmps109
  go_wp2_with (at_builtin; refine Lib.wpList_append_run _ rfl _ _ _ _ rfl _ _ rfl rfl _ _ (HR.out _) ?_)
  go_ret
  exact ⟨_, rfl, World.ownsRow_made w R G (Nat.le_refl _) (by unfold maxLen; exact hG2) HS.out, ((Below.refl _ _).alloc (Nat.le_refl _) _).drew, _, _, rfl⟩

theorem news_row {w : World} {g c : Nat} {xs : List H3} (R : R3 38 w (some ⟨g, 0, none⟩) c xs) : ∀ (j : Nat) (u : Value), (cells3 xs)[j]? = some u → w.cell? ((⟨g, 0, none⟩ : Addr).add j) = some u := by
  intro j u hj
  have hjl : j < xs.length * 3 := by
    have := (List.getElem?_eq_some_iff.1 hj).1
    rwa [cells3_length] at this
  have h' : w.ownsRow 0 38 3 (.slice (some ⟨g, 0, none⟩) xs.length c) xs.length (cells3 xs) := R
  rw [Addr.add_lit, Nat.zero_add, h'.cellAt j hjl]; exact hj

/-- The row after an append: what was readable in old blocks stays so. -/
theorem grown_below {B : Nat} {w0 w w' : World} {v : Value} (h : Below B w0 w) (hg : w.grownBy w' v.ownBlock) (hv : ∀ k, v.ownBlock = some k → B ≤ k) (hB : B ≤ w0.heap.size) : Below B w0 w' :=
  ⟨hg.os.trans h.os, hg.tape.trans h.tape, hg.output.trans h.output, Nat.le_trans h.size hg.size, fun k hk => (hg.block k (by have := h.size; omega) (fun e => by have := hv k e.symm; omega)).trans (h.block k hk)⟩

set_option maxRecDepth 100000 in
set_option maxHeartbeats 4000000 in
theorem Concat2_any {xs ys : List H3} {A1 A2 : Option Addr} {c1 c2 gb : Nat} {w : World} (R1 : R3 38 w A1 c1 xs) (R2 : R3 38 w A2 c2 ys) (hx : 0 < xs.length ∧ xs.length ≤ 400) (hy : 0 < ys.length ∧ ys.length ≤ 400)
    (hb : w.heap[gb]? = some (.cells #[.slice A1 xs.length c1, .slice A2 ys.length c2] 26 (0, 0))) :
    Calls Try.prog 64 #[.slice (some ⟨gb, 0, none⟩) 2 2] w (InsPost w.heap.size w (xs ++ ys)) := by
  obtain ⟨i0, hi, hz0, hz1, hz2⟩ := info_parts info_half
  obtain ⟨g1, rfl, hg1, _⟩ := R1.at_ hx.1
  obtain ⟨g2, rfl, hg2, _⟩ := R2.at_ hy.1
  have q0 := cell_blk (j := 0) hb rfl
  have q1 := cell_blk (j := 1) hb rfl
  have ql := (Array.getElem?_eq_some_iff.1 hb).1
  clear hb
  have hx1 := hx.1
  have hx2 := hx.2
  have hy1 := hy.1
  have hy2 := hy.2
  go_enter Try.func64, Try.ntmps64
  go_wp2
  refine wp_loop_rounds 3 ?_
  rw [rounds_succ]
  go_wp2
  rw [rounds_succ]
  go_wp2
  rw [rounds_succ]
  go_wp2_with fail
  refine (Grow_nil (by omega)).mono ?_
  rintro e w1 ⟨v1, rfl, O1, hb1, gg, cg, rfl⟩
  have lt1 := O1.lt gg rfl
  have n1 := news_row (R3.below R1 hb1)
  have q0' : w1.cell? ⟨gb, 0, none⟩ = some (.slice (some ⟨g1, 0, none⟩) xs.length c1) := (hb1.cell (p := ⟨gb, 0, none⟩) ql).trans q0
  have q1' : w1.cell? ⟨gb, 1, none⟩ = some (.slice (some ⟨g2, 0, none⟩) ys.length c2) := (hb1.cell (p := ⟨gb, 1, none⟩) ql).trans q1
  have s1 := hb1.size
  clear q0 q1
  go_wp2
  refine wp_loop_rounds 3 ?_
  rw [rounds_succ]
  go_wp2_with (at_builtin; refine wpList_append_own _ rfl _ _ 26 rfl w.heap.size 38 i0 (.agg #[.int .i64 0, .int .i64 0, .int .i64 0]) 3 24 Try.underlying26 hi hz0 hz1 hz2 rfl (by decide) _ _ _ rfl O1 ⟨g1, 0, none⟩ xs.length c1 (cells3 xs) rfl (cells3_length _) n1 (cells3_one _) (by unfold maxLen; omega) (by omega) s1 ?_; intro v2 w2 O2 hg2' _)
  have hb2 := grown_below hb1 hg2' (fun k hk => (O1.lt k hk).1) (Nat.le_refl _)
  have s2 := hb2.size
  have q1'' : w2.cell? ⟨gb, 1, none⟩ = some (.slice (some ⟨g2, 0, none⟩) ys.length c2) := (hb2.cell (p := ⟨gb, 1, none⟩) ql).trans ((hb1.cell (p := ⟨gb, 1, none⟩) ql).symm.trans q1')
  have n2 := news_row (R3.below R2 hb2)
  clear q0' q1' n1 hg2'
  simp only [Nat.zero_add, List.nil_append] at O2
  rw [rounds_succ]
  go_wp2_with (at_builtin; refine wpList_append_own _ rfl _ _ 26 rfl w.heap.size 38 i0 (.agg #[.int .i64 0, .int .i64 0, .int .i64 0]) 3 24 Try.underlying26 hi hz0 hz1 hz2 rfl (by decide) _ _ _ rfl O2 ⟨g2, 0, none⟩ ys.length c2 (cells3 ys) rfl (cells3_length _) n2 (cells3_one _) (by unfold maxLen; omega) (by omega) s2 ?_; intro v3 w3 O3 hg3 _)
  have hb3 := grown_below hb2 hg3 (fun k hk => (O2.lt k hk).1) (Nat.le_refl _)
  clear q1'' n2 hg3
  have HO := Lib.hid O3
  have HB := Lib.hid hb3
  clear O3 hb3
  rw [rounds_succ]
  go_wp2
  go_ret
  have O3 := HO.out
  rw [← cells3_append, ← List.length_append] at O3
  obtain ⟨A, c, rfl, R⟩ := own_slice O3
  exact ⟨A, c, rfl, R, HB.out⟩
end Go.Proofs.Ytnenlgaafiifpaa
