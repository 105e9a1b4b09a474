/- Several texts in one: Tail, Ti. Each says its own conditions. -/
import Derived.Test.YtabmfaamadbefaaGreatWords
import Derived.StillTail
import Derived.Test.YtabmfaamadbefaaGreatIns
import Derived.Test.YtabmfaamadbefaaGreatReg
import Derived.Test.YtabmfaamadbefaaGreatH
import Derived.Test.YtabmfaamadbefaaGreatGeo
import Derived.LoopN
/- A region that draws its order: first operations each of which has one value in every world of a class, then a tail that is forced: one walk serves every order. No condition. -/
set_option linter.unusedVariables false
namespace Go.Proofs.YtabmfaamadbefaaGreat
open Go.RowKit
section
variable {P : Program} {ops : Array Oper} {md : Region.Mode} {C : World → Prop}
def wpAnyC (P : Program) (md : Region.Mode) (ops : Array Oper) (C : World → Prop) (n : Nat) (L : Array Bool → Act → Prop) : Nat → Array Bool → Act → Prop
  | 0, listed, a => L listed a
  | f + 1, listed, a => Region.ready md ops listed ≠ [] ∧ ∀ i ∈ Region.ready md ops listed, i < n ∧ qOp P ops C i (wpAnyC P md ops C n L f (listed.setIfInBounds i true)) a

theorem wpAny_of_calm_head {n g : Nat} {L : Array Bool → Act → Prop} {Q' : Exit → Act → World → Prop} (hL : ∀ listed a w, C w → L listed a → wpAny P md ops Q' g listed a w) :
    ∀ (f : Nat) (listed : Array Bool) (a : Act) (w : World), C w → wpAnyC P md ops C n L f listed a → wpAny P md ops Q' (f + g) listed a w
  | 0, listed, a, w, hw, h => by rw [Nat.zero_add]; exact hL _ _ _ hw h
  | f + 1, listed, a, w, hw, h => by
    rw [show f + 1 + g = (f + g) + 1 by omega]
    exact ⟨fun h0 => absurd h0 h.1, fun i hi => wpOp_of_qOp hw (fun a' w' hw' h' => wpAny_of_calm_head hL f _ a' w' hw' h') (h.2 i hi).2⟩

theorem wpAnyC_first {n i : Nat} {oi : Oper} {v : Value} {L : Array Bool → Act → Prop} (hi : ops[i]? = some oi) (hsel : ∀ (j : Nat) (o : Oper) cs b, ops[j]? = some o → o.op ≠ .select cs b)
    (hs : Region.sinkB md ops n = true) (hc : Region.chainB md ops n = true) (hn : n < ops.size) (hin : i < n)
    (hdone : ∀ listed a, L listed a → ∀ j ∈ Region.ready md ops listed, n ≤ j) :
    ∀ (f : Nat) (listed : Array Bool) (a : Act), HeadInv md ops n listed →
      (∀ j oj, ops[j]? = some oj → j ≠ i → listed.getD j true = false → (∀ e ∈ oj.after, Region.binds md e = true → e.on ≠ i) → oi.apart ops oj = true) →
      i ∈ Region.ready md ops listed → YieldsIn P ops C oi v a →
      wpAnyC P md ops C n L f (listed.setIfInBounds i true) (a.put oi.dst v) → wpAnyC P md ops C n L (f + 1) listed a := by
  intro f
  induction f with
  | zero =>
    intro listed a inv _ hr hy H
    refine ⟨fun h => (by rw [h] at hr; cases hr), fun j hj => ?_⟩
    have hjn : j < n := by
      rcases Nat.lt_or_ge j n with h | h
      · exact h
      · exact absurd hj (tail_waits hs hc hn inv _ i rfl hin (mem_ready.1 hr).1 j h)
    refine ⟨hjn, ?_⟩
    by_cases hji : j = i
    · subst hji; exact hy.qOp hi H
    · have := hdone _ _ H j (ready_mono hj hji)
      omega
  | succ f ih =>
    intro listed a inv hfree hr hy H
    have hun := (mem_ready.1 hr).1
    refine ⟨fun h => (by rw [h] at hr; cases hr), fun j hj => ?_⟩
    have hjn : j < n := by
      rcases Nat.lt_or_ge j n with h | h
      · exact h
      · exact absurd hj (tail_waits hs hc hn inv _ i rfl hin hun j h)
    refine ⟨hjn, ?_⟩
    by_cases hji : j = i
    · subst hji; exact hy.qOp hi H
    · have h1 := (H.2 j (ready_mono hj hji)).2
      obtain ⟨hjun, oj, hoj, hall⟩ := mem_ready.1 hj
      have hnot : ∀ e ∈ oj.after, Region.binds md e = true → e.on ≠ i := fun e he hb heq => by
        have h1 := hall e he hb
        rw [heq, getD_both hun] at h1
        cases h1
      have h2 := qOp_put hoj (hfree j oj hoj hji hjun hnot) (fun cs b => hsel i oi cs b hi) (fun cs b => hsel j oj cs b hoj) hy h1
      have hfree' : ∀ k ok, ops[k]? = some ok → k ≠ i → (listed.setIfInBounds j true).getD k true = false →
          (∀ e ∈ ok.after, Region.binds md e = true → e.on ≠ i) → oi.apart ops ok = true := fun k ok hk hki hun hno => by
        refine hfree k ok hk hki ?_ hno
        by_cases hjk : j = k
        · subst hjk; exact hjun
        · rw [getD_set_ne true hjk] at hun; exact hun
      refine qOp_mono (fun a' h3 => ih (listed.setIfInBounds j true) a' (inv.set hj hjn) hfree' (ready_mono hr (Ne.symm hji)) h3.1 ?_) h2
      rw [Array.setIfInBounds_comm _ _ hji]
      exact h3.2

theorem wpAnyC_lex {n g : Nat} {Lq : Act → Prop} (hsel : Region.noSelect ops = true) (hs : Region.sinkB md ops n = true) (hc : Region.chainB md ops n = true) (hn : n < ops.size) :
    ∀ (l : List Oper) (k : Nat) (listed : Array Bool) (a : Act), (∀ j, j < l.length → l[j]? = ops[k + j]?) → k + l.length = n → HeadInv md ops n listed →
    Region.lexHead md ops g l.length k listed = true → wpQuiet P ops C Lq l a →
    wpAnyC P md ops C n (fun listed' a' => Region.seqB md ops g n listed' = true ∧ Lq a') l.length listed a
  | [], k, listed, a, _, hk, _, hB, h => by
    have : k = n := by simpa using hk
    subst this
    exact ⟨by simpa [Region.lexHead] using hB, h⟩
  | o :: l, k, listed, a, hl, hk, inv, hB, h => by
    have h0 : ops[k]? = some o := by simpa using (hl 0 (by simp)).symm
    simp only [List.length_cons, Region.lexHead, Bool.and_eq_true] at hB
    obtain ⟨⟨hr, hf⟩, hB'⟩ := hB
    have hkn : k < n := by simp only [List.length_cons] at hk; omega
    have hr' : k ∈ Region.ready md ops listed := by simpa using hr
    have hst : qOp P ops C k (wpQuiet P ops C Lq l) a := by unfold qOp; simp only [h0]; exact h
    obtain ⟨v, hy, hK⟩ := yieldsIn_of_qOp h0 hst
    exact wpAnyC_first h0 (Region.noSelect_spec hsel) hs hc hn hkn (fun listed' a' hL => seqB_ready hL.1) l.length listed a inv (Region.free_spec h0 hf) hr' hy
      (wpAnyC_lex hsel hs hc hn l (k + 1) _ _ (fun j hj => by have := hl (j + 1) (by simp; omega); simpa [Nat.add_assoc, Nat.add_comm 1 j] using this) (by simp only [List.length_cons] at hk; omega) (inv.set hr' hkn) hB' hK)

/-- n operations that have one value each in every world that lies over w, then the rest in one order. -/
theorem wp_region_calm_tail {id : Nat} {Q : Exit → Act → World → Prop} {a : Act} {w : World} {l : List Oper} (n : Nat) (hm : P.follows .mixedOrders = true) (hB : Region.lexTailB .any l.toArray n = true)
    (h : wpQuiet P l.toArray (fun w' => ∃ x, w' = ov w x) (fun a' => ∀ w', (∃ x, w' = ov w x) → wpList P l.toArray Q (l.drop n) a' w') (l.take n) a) : (Code.region id l.toArray true).wp P Q a w := by
  simp only [Region.lexTailB, Bool.and_eq_true, decide_eq_true_eq] at hB
  obtain ⟨⟨⟨⟨hsel, hn⟩, hs⟩, hc⟩, hlex⟩ := hB
  have hn' : n < l.length := by simpa using hn
  have htl : (l.take n).length = n := by simp; omega
  have hdl : (l.drop n).length = l.toArray.size - n := by simp
  have inv0 : HeadInv .any l.toArray n (Array.replicate l.toArray.size false) :=
    ⟨by simp, fun j oj _ hl => (by rw [getD_replicate_false] at hl; cases hl), fun t _ ht => getD_in (by simpa using ht) (getD_replicate_false _ _)⟩
  have H := wpAnyC_lex (md := .any) (g := l.toArray.size - n) hsel hs hc hn (l.take n) 0 _ a (fun j hj => by
    have hj' : j < n := by rw [htl] at hj; exact hj
    simp [hj']) (by simpa using htl) inv0 (by rw [htl]; exact hlex) h
  refine wp_region_any hm ?_
  have := wpAny_of_calm_head (C := fun w' => ∃ x, w' = ov w x) (Q' := Q) (g := l.toArray.size - n) (fun listed a' w' hw' hL => by
    have := wpAny_of_seq (md := .any) (Q' := Q) (l.drop n) n listed a' w' (fun j => by simp [List.getElem?_drop]) (by rw [hdl]; exact hL.1) (hL.2 w' hw')
    rwa [hdl] at this) _ _ _ { w with drawn := w.drawn + 1 } (ov_of_below ⟨rfl, rfl, rfl, Nat.le_refl _, fun _ _ => rfl⟩) H
  rw [htl, show n + (l.toArray.size - n) = l.toArray.size by omega] at this
  exact this
end
end Go.Proofs.YtabmfaamadbefaaGreat
/- Contracts of slices.Grow at nil and of slices.Concat at two rows. Condition: both rows have elements, and few. Contract of tightest: it sorts. Condition: the half planes are valid, and few. -/
set_option linter.unusedSimpArgs false
set_option linter.unusedVariables false
set_option linter.unusedSectionVars false
namespace Go.Proofs.YtabmfaamadbefaaGreat
open Go.RowKit
def GrowPost (w : World) (e : Ending) (w' : World) : Prop := ∃ v, e = .returned v ∧ w'.ownsRow w.heap.size 44 3 v 0 [] ∧ Below w.heap.size w w' ∧ ∃ g c, v = .slice (some ⟨g, 0, none⟩) 0 c

set_option maxRecDepth 100000 in
set_option maxHeartbeats 4000000 in
theorem Grow_nil {z : Int} {w : World} (hz : 0 < z ∧ z ≤ 1000) :
    Calls Tryz.prog 125 #[.slice none 0 0, .int .i64 z] w (GrowPost w) := by
  obtain ⟨i0, hi, hz0, hz1, hz2⟩ := info_parts info_half
  obtain ⟨n, rfl⟩ : ∃ n : Nat, z = n := ⟨z.toNat, by omega⟩
  have hr := fun ty => Lib.run_append_nil_zeros w 24 3 ty 44 i0 _ .i64 .i64 Tryz.underlying24 Tryz.underlying3 hi hz0 n (by omega) (by omega) (by omega) (by rw [hz2]; omega)
  obtain ⟨G, hG⟩ : ∃ G, grownCap w n 0 44 = G := ⟨_, rfl⟩
  have hG1 : n ≤ G := by rw [← hG]; exact grownCap_ge w _ _ _
  have hG2 : G ≤ maxLen := by rw [← hG]; exact grownCap_le_maxLen w _ _ _ (by unfold maxLen; omega)
  rw [hG] at hr
  obtain ⟨R, hR⟩ : ∃ R : Array Value, Builtin.zeroCells (Value.agg #[.int .i64 0, .int .i64 0, .int .i64 0]).cells n ++ Builtin.zeroCells (Value.agg #[.int .i64 0, .int .i64 0, .int .i64 0]).cells (G - n) = R := ⟨_, rfl⟩
  have hRs : R.size = G * 3 := by
    have s3 : (Value.agg #[.int .i64 0, .int .i64 0, .int .i64 0]).cells.size = 3 := rfl
    rw [← hR]
    simp only [Array.size_append, size_zeroCells, s3]
    omega
  rw [hR] at hr
  have HR := Lib.hid hr
  have HS := Lib.hid hRs
  have h0 : (0 : Int) < n := hz.1
  have hG1' : (0 : Int) ≤ G := by omega
  unfold maxLen at hG2
  clear hr hR hG hRs
  go_enter Tryz.func125, Tryz.ntmps125
  go_wp2_with (at_builtin; refine Lib.wpList_append_run _ rfl _ _ _ _ rfl _ _ rfl rfl _ _ (HR.out _) ?_)
  go_ret
  exact ⟨_, rfl, World.ownsRow_made w R G (Nat.le_refl _) (by unfold maxLen; exact hG2) HS.out, ((Below.refl _ _).alloc (Nat.le_refl _) _).drew, _, _, rfl⟩

theorem news_row {w : World} {g c : Nat} {xs : List H3} (R : R3 44 w (some ⟨g, 0, none⟩) c xs) : ∀ (j : Nat) (u : Value), (cells3 xs)[j]? = some u → w.cell? ((⟨g, 0, none⟩ : Addr).add j) = some u := by
  intro j u hj
  have hjl : j < xs.length * 3 := by
    have := (List.getElem?_eq_some_iff.1 hj).1
    rwa [cells3_length] at this
  have h' : w.ownsRow 0 44 3 (.slice (some ⟨g, 0, none⟩) xs.length c) xs.length (cells3 xs) := R
  rw [Addr.add_lit, Nat.zero_add, h'.cellAt j hjl]; exact hj

/-- The row after an append: what was readable in old blocks stays so. -/
theorem grown_below {B : Nat} {w0 w w' : World} {v : Value} (h : Below B w0 w) (hg : w.grownBy w' v.ownBlock) (hv : ∀ k, v.ownBlock = some k → B ≤ k) (hB : B ≤ w0.heap.size) : Below B w0 w' :=
  ⟨hg.os.trans h.os, hg.tape.trans h.tape, hg.output.trans h.output, Nat.le_trans h.size hg.size, fun k hk => (hg.block k (by have := h.size; omega) (fun e => by have := hv k e.symm; omega)).trans (h.block k hk)⟩

set_option maxRecDepth 100000 in
set_option maxHeartbeats 4000000 in
theorem Concat2_any {xs ys : List H3} {A1 A2 : Option Addr} {c1 c2 gb : Nat} {w : World} (R1 : R3 44 w A1 c1 xs) (R2 : R3 44 w A2 c2 ys) (hx : 0 < xs.length ∧ xs.length ≤ 400) (hy : 0 < ys.length ∧ ys.length ≤ 400)
    (hb : w.heap[gb]? = some (.cells #[.slice A1 xs.length c1, .slice A2 ys.length c2] 24 (0, 0))) :
    Calls Tryz.prog 93 #[.slice (some ⟨gb, 0, none⟩) 2 2] w (InsPost w.heap.size w (xs ++ ys)) := by
  obtain ⟨i0, hi, hz0, hz1, hz2⟩ := info_parts info_half
  obtain ⟨g1, rfl, hg1, _⟩ := R1.at_ hx.1
  obtain ⟨g2, rfl, hg2, _⟩ := R2.at_ hy.1
  have q0 := cell_blk (j := 0) hb rfl
  have q1 := cell_blk (j := 1) hb rfl
  have ql := (Array.getElem?_eq_some_iff.1 hb).1
  clear hb
  have hx1 := hx.1
  have hx2 := hx.2
  have hy1 := hy.1
  have hy2 := hy.2
  go_enter Tryz.func93, Tryz.ntmps93
  go_wp2
  refine wp_loop_rounds 3 ?_
  rw [rounds_succ]
  go_wp2
  rw [rounds_succ]
  go_wp2
  rw [rounds_succ]
  go_wp2_with fail
  refine (Grow_nil (by omega)).mono ?_
  rintro e w1 ⟨v1, rfl, O1, hb1, gg, cg, rfl⟩
  have lt1 := O1.lt gg rfl
  have n1 := news_row (R3.below R1 hb1)
  have q0' : w1.cell? ⟨gb, 0, none⟩ = some (.slice (some ⟨g1, 0, none⟩) xs.length c1) := (hb1.cell (p := ⟨gb, 0, none⟩) ql).trans q0
  have q1' : w1.cell? ⟨gb, 1, none⟩ = some (.slice (some ⟨g2, 0, none⟩) ys.length c2) := (hb1.cell (p := ⟨gb, 1, none⟩) ql).trans q1
  have s1 := hb1.size
  clear q0 q1
  go_wp2
  refine wp_loop_rounds 3 ?_
  rw [rounds_succ]
  go_wp2_with (at_builtin; refine wpList_append_own _ rfl _ _ 24 rfl w.heap.size 44 i0 (.agg #[.int .i64 0, .int .i64 0, .int .i64 0]) 3 24 Tryz.underlying24 hi hz0 hz1 hz2 rfl (by decide) _ _ _ rfl O1 ⟨g1, 0, none⟩ xs.length c1 (cells3 xs) rfl (cells3_length _) n1 (cells3_one _) (by unfold maxLen; omega) (by omega) s1 ?_; intro v2 w2 O2 hg2' _)
  have hb2 := grown_below hb1 hg2' (fun k hk => (O1.lt k hk).1) (Nat.le_refl _)
  have s2 := hb2.size
  have q1'' : w2.cell? ⟨gb, 1, none⟩ = some (.slice (some ⟨g2, 0, none⟩) ys.length c2) := (hb2.cell (p := ⟨gb, 1, none⟩) ql).trans ((hb1.cell (p := ⟨gb, 1, none⟩) ql).symm.trans q1')
  have n2 := news_row (R3.below R2 hb2)
  clear q0' q1' n1 hg2'
  simp only [Nat.zero_add, List.nil_append] at O2
  rw [rounds_succ]
  go_wp2_with (at_builtin; refine wpList_append_own _ rfl _ _ 24 rfl w.heap.size 44 i0 (.agg #[.int .i64 0, .int .i64 0, .int .i64 0]) 3 24 Tryz.underlying24 hi hz0 hz1 hz2 rfl (by decide) _ _ _ rfl O2 ⟨g2, 0, none⟩ ys.length c2 (cells3 ys) rfl (cells3_length _) n2 (cells3_one _) (by unfold maxLen; omega) (by omega) s2 ?_; intro v3 w3 O3 hg3 _)
  have hb3 := grown_below hb2 hg3 (fun k hk => (O2.lt k hk).1) (Nat.le_refl _)
  clear q1'' n2 hg3
  have HO := Lib.hid O3
  have HB := Lib.hid hb3
  clear O3 hb3
  rw [rounds_succ]
  go_wp2
  go_ret
  have O3 := HO.out
  rw [← cells3_append, ← List.length_append] at O3
  obtain ⟨A, c, rfl, R⟩ := own_slice O3
  exact ⟨A, c, rfl, R, HB.out⟩
end Go.Proofs.YtabmfaamadbefaaGreat
set_option linter.unusedSimpArgs false
set_option linter.unusedVariables false
set_option linter.unusedSectionVars false
namespace Go.Proofs.YtabmfaamadbefaaGreat
open Go.RowKit
theorem Insert_as {B : Nat} {w : World} {A : Option Addr} {c : Nat} {xs ys : List H3} {vb i : Nat} {x : H3} (h : RB B 44 w A c xs) (hB : B ≤ w.heap.size) (hv : w.heap[vb]? = some (.cells #[.int .i64 x.a, .int .i64 x.b, .int .i64 x.c] 44 (0, 0))) (hl : xs.length ≤ 1000)
    (hin : i ≤ xs.length) (hne : A ≠ some ⟨vb, 0, none⟩) (hy : ys = xs.take i ++ x :: xs.drop i) :
    Calls Tryz.prog 124 #[.slice A xs.length c, .int .i64 i, .slice (some ⟨vb, 0, none⟩) 1 1] w (InsPost B w ys) := by
  subst hy; exact Insert_any h hB hv hl hin hne

theorem RB.ne_new {B : Nat} {E : TypeId} {w : World} {A : Option Addr} {c : Nat} {xs : List H3} (h : RB B E w A c xs) : A ≠ some ⟨w.heap.size, 0, none⟩ := by
  rintro rfl
  rcases h.2 with ⟨e, _⟩ | ⟨g, cap, cur, e, hg, hh, _⟩
  · injection e with e; cases e
  · injection e with e; injection e with e; injection e with e
    subst e
    simp at hh

theorem cells3_set (xs : List H3) (j : Nat) (y : H3) (hj : j < xs.length) : cells3 (xs.set j y) = (((cells3 xs).set (j * 3) (.int .i64 y.a)).set (j * 3 + 1) (.int .i64 y.b)).set (j * 3 + 2) (.int .i64 y.c) := by
  induction xs generalizing j with
  | nil => cases hj
  | cons x r ih =>
    have e : ∀ z l, cells3 (z :: l) = .int .i64 z.a :: .int .i64 z.b :: .int .i64 z.c :: cells3 l := fun _ _ => rfl
    cases j with
    | zero => rw [List.set_cons_zero, e, e]; rfl
    | succ j => rw [List.set_cons_succ, e, e, ih j (by simpa using hj), show (j + 1) * 3 = j * 3 + 1 + 1 + 1 by omega]; rfl

/-- One element of a row is stored anew. -/
theorem RB.set_ {B : Nat} {E : TypeId} {w : World} {A : Option Addr} {c : Nat} {xs : List H3} {g j : Nat} (h : RB B E w A c xs) (eA : A = some ⟨g, 0, none⟩) (hj : j < xs.length) (y : H3) :
    RB B E (((w.setCell ⟨g, j * 3, none⟩ (.int .i64 y.a)).setCell ⟨g, j * 3 + 1, none⟩ (.int .i64 y.b)).setCell ⟨g, j * 3 + 2, none⟩ (.int .i64 y.c)) A c (xs.set j y) ∧
    ∀ {w0 : World}, Below B w0 w → Below B w0 (((w.setCell ⟨g, j * 3, none⟩ (.int .i64 y.a)).setCell ⟨g, j * 3 + 1, none⟩ (.int .i64 y.b)).setCell ⟨g, j * 3 + 2, none⟩ (.int .i64 y.c)) := by
  subst eA
  obtain ⟨g', cur, e, hbg, _⟩ := h.row (by omega)
  obtain rfl : g' = g := by injection e with e; injection e with e; exact e.symm
  have h' : w.ownsRow B E 3 (.slice (some ⟨g', 0, none⟩) xs.length c) xs.length (cells3 xs) := h
  have h1 := (h'.stored (j * 3) (.int .i64 y.a)).1
  have h2 := (h1.stored (j * 3 + 1) (.int .i64 y.b)).1
  have h3 := (h2.stored (j * 3 + 2) (.int .i64 y.c)).1
  rw [← cells3_set xs j y hj] at h3
  refine ⟨?_, fun hb => ((hb.setCell hbg _).setCell hbg _).setCell hbg _⟩
  unfold RB
  rw [List.length_set]
  exact h3

theorem beforeAngle_eq {g h : H3} {w : World} {v : Bool} (kg : HOk g) (kh : HOk h) (e : before g h = v) : Calls Tryz.prog 121 #[.agg #[.int .i64 g.a, .int .i64 g.b, .int .i64 g.c], .agg #[.int .i64 h.a, .int .i64 h.b, .int .i64 h.c]] w fun e w' => e = .returned (.bool v) ∧ Below w.heap.size w w' := by
  subst e; exact beforeAngle_any kg kh
theorem sameDirection_eq {g h : H3} {w : World} {v : Bool} (kg : HOk g) (kh : HOk h) (e : sameDir g h = v) : Calls Tryz.prog 122 #[.agg #[.int .i64 g.a, .int .i64 g.b, .int .i64 g.c], .agg #[.int .i64 h.a, .int .i64 h.b, .int .i64 h.c]] w fun e w' => e = .returned (.bool v) ∧ Below w.heap.size w w' := by
  subst e; exact sameDirection_any kg kh
set_option maxRecDepth 100000 in
set_option maxHeartbeats 4000000 in
theorem tightest_any {hs : List H3} {A : Option Addr} {c : Nat} {w : World} (G : ∀ g ∈ hs, HOk g) (R : R3 44 w A c hs) (hl : hs.length ≤ 500) :
    Calls Tryz.prog 92 #[.slice A hs.length c] w (InsPost w.heap.size w (sortH hs)) := by
  go_enter Tryz.func92, Tryz.ntmps92
  go_wp2
  go_loopw [3, 9] (fun o i wr => ∃ (k : Nat) (os : List H3) (A' : Option Addr) (c' : Nat), k ≤ hs.length ∧ i = .int .i64 k ∧ o = .slice A' os.length c' ∧ Hid (os = sortH (hs.take k)) ∧ RB w.heap.size 44 wr A' c' os ∧ Below w.heap.size w wr) (fun _ i _ => hs.length - (intOf i).toNat)
  case atStart => exact ⟨0, [], none, 0, Nat.zero_le _, rfl, rfl, rfl, RB.nil _ _ _, Below.refl _ _⟩
  case round =>
    obtain ⟨k, os, A', c', hk, rfl, rfl, HO, RO, hb⟩ := hrel
    obtain ⟨wo, rfl⟩ : ∃ wo : World, wo = wr := ⟨_, rfl⟩
    by_cases hlt : k < hs.length
    · obtain ⟨g0, rfl, hg0, z0, z1, z2⟩ := (R.below hb).at_ hlt
      have kh := G _ (List.getElem_mem hlt)
      have okO : ∀ g ∈ os, HOk g := fun g hg => G g (List.mem_of_mem_take (sortH_mem (fun x hx => (G x (List.mem_of_mem_take hx)).nz) (HO.out ▸ hg)))
      have lo : os.length ≤ 500 := by rw [HO.out]; have := sortH_length (hs.take k); rw [List.length_take] at this; omega
      have hbs := hb.size
      go_wp2
      go_loopw [6] (fun t wi => ∃ j : Nat, j ≤ os.length ∧ t = .int .i64 j ∧ Hid (∀ i (hi : i < os.length), i < j → before os[i] hs[k] = true) ∧ Below (wo.heap.size + 1) (wo.alloc (.cells #[.int .i64 hs[k].a, .int .i64 hs[k].b, .int .i64 hs[k].c] 44)) wi) (fun t _ => os.length - (intOf t).toNat)
      case atStart => exact ⟨0, Nat.zero_le _, rfl, fun i hi h0 => by omega, Below.refl _ _⟩
      case round =>
        obtain ⟨j, hj, rfl, HB, hbi⟩ := hrel
        have hbw : Below wo.heap.size wo wr := ((Below.refl _ _).alloc (Nat.le_refl _) _).trans (hbi.mono (by omega))
        have RI := RO.below hbw
        have hbW : Below w.heap.size w wr := hb.trans (hbw.mono hbs)
        have szi := hbi.size
        have hbox : wr.heap[wo.heap.size]? = some (.cells #[.int .i64 hs[k].a, .int .i64 hs[k].b, .int .i64 hs[k].c] 44 (0, 0)) := (hbi.block _ (by omega)).trans (heap_alloc_new _ _)
        have q0 := cell_blk (j := 0) hbox rfl
        have q1 := cell_blk (j := 1) hbox rfl
        have q2 := cell_blk (j := 2) hbox rfl
        have ql := (Array.getElem?_eq_some_iff.1 hbox).1
        have HX := Lib.hid hbox
        clear hbox
        by_cases hlj : j < os.length
        · obtain ⟨gi, eA, hgi, y0, y1, y2⟩ := RI.r3.at_ hlj
          have oj := okO _ (List.getElem_mem hlj)
          cases hbe : before os[j] hs[k] with
          | true =>
            go_wp2
            ((first | (with_reducible refine wp_region_calm2 (by kernel_rfl) (by kernel_rfl) ?_) | refine wp_region_calm (by kernel_rfl) (by kernel_rfl) ?_); (repeat (go_big_quiet_step (first | (go_at_call 121; exact calm_below (beforeAngle_eq oj kh hbe))))); refine wpQuiet_nil ?_; rintro _ ⟨y, rfl⟩)
            go_wp2
            go_roundw
            case rel => exact ⟨j + 1, by omega, by go_num, Lib.hid (fun i hi h => by
              by_cases e : i = j
              · subst e; exact hbe
              · exact HB.out i hi (by omega)), below_ov _ _ hbi (by simpa using szi)⟩
            case measure => simp [intOf]; omega
          | false =>
            have HS := Lib.hid (sortH_succ hs k hlt)
            cases hsd : sameDir os[j] hs[k] with
            | true =>
              have HT := Lib.hid (insH_set hs[k] os j hlj HB.out hbe hsd)
              obtain ⟨g', cur, e', _, _, hgh, _⟩ := RI.row (by omega)
              obtain rfl : g' = gi := by rw [eA] at e'; injection e' with e'; injection e' with e'; exact e'.symm
              have f0 := frozen_blk (j := j * 3) hgh
              have f1 := frozen_blk (j := j * 3 + 1) hgh
              have f2 := frozen_blk (j := j * 3 + 2) hgh
              clear hgh e'
              go_wp2
              ((first | (with_reducible refine wp_region_calm2 (by kernel_rfl) (by kernel_rfl) ?_) | refine wp_region_calm (by kernel_rfl) (by kernel_rfl) ?_); (repeat (go_big_quiet_step (first | (go_at_call 121; exact calm_below (beforeAngle_eq oj kh hbe))))); refine wpQuiet_nil ?_; rintro _ ⟨y, rfl⟩)
              go_wp2
              ((first | (with_reducible refine wp_region_calm2 (by kernel_rfl) (by kernel_rfl) ?_) | refine wp_region_calm (by kernel_rfl) (by kernel_rfl) ?_); (repeat (go_big_quiet_step (first | (go_at_call 122; exact calm_below (sameDirection_eq oj kh hsd))))); refine wpQuiet_nil ?_; rintro _ ⟨y, rfl⟩)
              go_wp2
              (refine wp_region_calm_tail 9 (by kernel_rfl) (by kernel_rfl) ?_; simp only [List.take_succ_cons, List.take_zero, List.drop_succ_cons, List.drop_zero]; (repeat (go_big_quiet_step (first | (go_at_call 123; exact calm_below (TighterHalf_any oj kh hsd))))); refine wpQuiet_nil ?_; rintro _ ⟨y, rfl⟩)
              go_wp2
              go_roundw
              case rel => exact ⟨k + 1, os.set j (tighter os[j] hs[k]), A', c', by omega, by go_num, by rw [List.length_set, eA], Lib.hid (by rw [HS.out, ← HO.out, HT.out]), ((RI.set_ eA hlj (tighter os[j] hs[k])).1.below (below_ov _ _ (Below.refl _ _) (Nat.le_refl _))).below (below_ov _ _ (Below.refl _ _) (Nat.le_refl _)), below_ov _ _ (below_ov _ _ ((RI.set_ eA hlj (tighter os[j] hs[k])).2 hbW) (by simp; omega)) (by simp [ov_size]; omega)⟩
              case measure => simp [intOf]; omega
            | false =>
              have HT := Lib.hid (insH_new hs[k] os j hlj HB.out hbe hsd)
              go_wp2
              ((first | (with_reducible refine wp_region_calm2 (by kernel_rfl) (by kernel_rfl) ?_) | refine wp_region_calm (by kernel_rfl) (by kernel_rfl) ?_); (repeat (go_big_quiet_step (first | (go_at_call 121; exact calm_below (beforeAngle_eq oj kh hbe))))); refine wpQuiet_nil ?_; rintro _ ⟨y, rfl⟩)
              go_wp2
              ((first | (with_reducible refine wp_region_calm2 (by kernel_rfl) (by kernel_rfl) ?_) | refine wp_region_calm (by kernel_rfl) (by kernel_rfl) ?_); (repeat (go_big_quiet_step (first | (go_at_call 122; exact calm_below (sameDirection_eq oj kh hsd))))); refine wpQuiet_nil ?_; rintro _ ⟨y, rfl⟩)
              go_wp2_with fail
              refine (Insert_as (B := w.heap.size) (xs := os) (ys := insH os hs[k]) (x := hs[k]) ?c1a ?c2a ?c3a ?c4a ?c5a ?c6a ?c7a).mono ?c0a
              case c1a => exact eA ▸ (RI.below (below_ov _ _ (Below.refl _ _) (Nat.le_refl _))).below ((Below.refl _ _).alloc (Nat.le_refl _) _)
              case c2a => have := hbW.size; simp [ov_size]; omega
              case c3a => exact heap_alloc_new _ _
              case c4a => omega
              case c5a => omega
              case c6a => exact eA ▸ (RI.below (below_ov _ y (Below.refl _ _) (Nat.le_refl _))).ne_new
              case c7a => exact HT.out
              case c0a =>
                rintro e w' ⟨A2, c2, rfl, R2, hb2⟩
                go_wp2
                go_roundw
                case rel => exact ⟨k + 1, insH os hs[k], A2, c2, by omega, by go_num, rfl, Lib.hid (by rw [HS.out, ← HO.out]), R2, (((below_ov wr y hbW (by omega)).alloc (by have := ov_size wr y; have := hbW.size; omega) _).trans hb2)⟩
                case measure => simp [intOf]; omega
        · obtain rfl : j = os.length := by omega
          have HS := Lib.hid (sortH_succ hs k hlt)
          have HT := Lib.hid (insH_end hs[k] os HB.out)
          go_wp2
          ((first | (with_reducible refine wp_region_calm2 (by kernel_rfl) (by kernel_rfl) ?_) | refine wp_region_calm (by kernel_rfl) (by kernel_rfl) ?_); (repeat (go_big_quiet_step (first | fail))); refine wpQuiet_nil ?_; rintro _ ⟨y, rfl⟩)
          go_wp2
          ((first | (with_reducible refine wp_region_calm2 (by kernel_rfl) (by kernel_rfl) ?_) | refine wp_region_calm (by kernel_rfl) (by kernel_rfl) ?_); (repeat (go_big_quiet_step (first | fail))); refine wpQuiet_nil ?_; rintro _ ⟨y, rfl⟩)
          go_wp2_with fail
          refine (Insert_as (B := w.heap.size) (xs := os) (ys := insH os hs[k]) (x := hs[k]) ?c1b ?c2b ?c3b ?c4b ?c5b ?c6b ?c7b).mono ?c0b
          case c1b => exact (RI.below (below_ov _ _ (Below.refl _ _) (Nat.le_refl _))).below ((Below.refl _ _).alloc (Nat.le_refl _) _)
          case c2b => have := hbW.size; simp [ov_size]; omega
          case c3b => exact heap_alloc_new _ _
          case c4b => omega
          case c5b => omega
          case c6b => exact (RI.below (below_ov _ y (Below.refl _ _) (Nat.le_refl _))).ne_new
          case c7b => exact HT.out
          case c0b =>
            rintro e w' ⟨A2, c2, rfl, R2, hb2⟩
            go_wp2
            go_roundw
            case rel => exact ⟨k + 1, insH os hs[k], A2, c2, by omega, by go_num, rfl, Lib.hid (by rw [HS.out, ← HO.out]), R2, (((below_ov wr y hbW (by omega)).alloc (by have := ov_size wr y; have := hbW.size; omega) _).trans hb2)⟩
            case measure => simp [intOf]; omega
    · obtain rfl : k = hs.length := by omega
      rw [List.take_length] at HO
      go_wp2
      go_ret
      obtain rfl := HO.out
      exact ⟨A', c', rfl, RO, hb⟩
end Go.Proofs.YtabmfaamadbefaaGreat