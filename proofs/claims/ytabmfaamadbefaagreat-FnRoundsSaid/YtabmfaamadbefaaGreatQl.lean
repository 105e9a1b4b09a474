/- Plain: the loss of a round. No program. -/
import Derived.Test.YtabmfaamadbefaaGreatGp
import Derived.Test.YtabmfaamadbefaaGreatQe
import Derived.Test.YtabmfaamadbefaaGreatKo
set_option linter.unusedVariables false
set_option linter.unusedSimpArgs false
set_option linter.unusedSectionVars false
namespace Go.Proofs.YtabmfaamadbefaaGreat
open Go.RowKit
def nrm1 (h : H3) : Int := max h.a (-h.a) + max h.b (-h.b)
def lossF (p : List H3) (h : H3) : Int × Int := ratOf ((supN h.a h.b p).1 - h.c * (supN h.a h.b p).2) ((supN h.a h.b p).2 * nrm1 h)
def bestL (p l : List H3) : Int × Int := l.foldl (fun st h => if 0 ≤ ratioCmp st.1 st.2 (lossF p h).1 (lossF p h).2 then st else lossF p h) (0, 1)
def lossOf (r : RoomV) (x : (List H3 × Int × Bool) × Bool) : (Int × Int) × Bool :=
  if x.2 = true ∧ (keepR r x.1.1).2 = true ∧ x.1.1 ≠ [] ∧ (keepR r x.1.1).1 ≠ [] then (bestL x.1.1 (keepR r x.1.1).1, true) else ((0, 0), false)
def lossR (r : RoomV) (n : Int) : (Int × Int) × Bool := lossOf r (runR r n)
theorem bestL_snoc (p l : List H3) (h : H3) : bestL p (l ++ [h]) = if 0 ≤ ratioCmp (bestL p l).1 (bestL p l).2 (lossF p h).1 (lossF p h).2 then bestL p l else lossF p h := by unfold bestL; rw [List.foldl_append]; rfl
structure LossBd (p : List H3) (h : H3) : Prop where
  q : 1 ≤ (supN h.a h.b p).2 ∧ (supN h.a h.b p).2 ≤ 5000000000
  s : -500000000000000000 ≤ (supN h.a h.b p).1 ∧ (supN h.a h.b p).1 ≤ 500000000000000000
  c : -500000000000000000 ≤ h.c * (supN h.a h.b p).2 ∧ h.c * (supN h.a h.b p).2 ≤ 500000000000000000
  n : 1 ≤ nrm1 h ∧ nrm1 h ≤ 100000
  d : 1 ≤ (supN h.a h.b p).2 * nrm1 h ∧ (supN h.a h.b p).2 * nrm1 h ≤ 500000000000000
theorem loss_bd {p : List H3} {h : H3} (kp : regionOk p = true) (hp : p ≠ []) (k : HOk h) : LossBd p h := by
  obtain ⟨⟨u, v⟩, hs⟩ : ∃ s, supN h.a h.b p = s := ⟨_, rfl⟩
  obtain ⟨_, hq, hn⟩ := sup_fr kp hp k.ba k.bb hs
  have hc := mul_bd (x := h.c) (y := v) (A := 100000000) (B := 5000000000) k.bc (by omega)
  have b1 := k.ba
  have b2 := k.bb
  have hz := k.nz
  have n1 : 1 ≤ nrm1 h ∧ nrm1 h ≤ 100000 := by
    unfold nrm1
    unfold NZ at hz
    omega
  have hd1 := Int.mul_pos (show 0 < v by omega) (show 0 < nrm1 h by omega)
  have hd2 := mul_bd (x := v) (y := nrm1 h) (A := 5000000000) (B := 100000) (by omega) (by omega)
  refine ⟨?_, ?_, ?_, n1, ?_⟩ <;> rw [hs] <;> simp only <;> omega
theorem ratOf_fine {n d : Int} (hn : -1000000000000000000 ≤ n ∧ n ≤ 1000000000000000000) (hd : 0 < d ∧ d ≤ 1000000000000000) : ratioOk (ratOf n d).1 (ratOf n d).2 = true := by
  obtain ⟨g, a, b, e, g0, ea, eb, qa, qb, b0, hc⟩ := gcd2_parts (n := n) hd.1
  have ha := mul_le_bd (a := a) (M := 1000000000000000000) g0 (by omega) (by rw [← ea]; exact hn)
  have hb := mul_le_bd (a := b) (M := 1000000000000000) g0 (by omega) (by rw [← eb]; omega)
  have ok : ratioOk a b = true := (ratioOk_parts b0 hc (by omega)).2 ⟨by omega, ha⟩
  rw [ratOf_red e qa qb, if_pos ok]
  exact ok
theorem loss_ok {p : List H3} {h : H3} (kp : regionOk p = true) (hp : p ≠ []) (k : HOk h) : ratioOk (lossF p h).1 (lossF p h).2 = true := by
  have B := loss_bd kp hp k
  unfold lossF
  have := B.s; have := B.c; have := B.d
  exact ratOf_fine (by omega) (by omega)
theorem best_ok {p : List H3} (kp : regionOk p = true) (hp : p ≠ []) : ∀ (l : List H3), (∀ h ∈ l, HOk h) → ratioOk (bestL p l).1 (bestL p l).2 = true := by
  intro l hl
  suffices key : ∀ (l : List H3) (st : Int × Int), (∀ h ∈ l, HOk h) → ratioOk st.1 st.2 = true → ratioOk (l.foldl (fun st h => if 0 ≤ ratioCmp st.1 st.2 (lossF p h).1 (lossF p h).2 then st else lossF p h) st).1 (l.foldl (fun st h => if 0 ≤ ratioCmp st.1 st.2 (lossF p h).1 (lossF p h).2 then st else lossF p h) st).2 = true from key l _ hl (whole_rat (by omega))
  intro l
  induction l with
  | nil => intro st _ h; exact h
  | cons x t ih =>
    intro st hl h
    rw [List.foldl_cons]
    refine ih _ (fun y hy => hl y (List.mem_cons_of_mem _ hy)) ?_
    split
    · exact h
    · exact loss_ok kp hp (hl x (List.mem_cons_self))
theorem ratioCmp_swap {a b c d : Int} (h1 : ratioOk a b = true) (h2 : ratioOk c d = true) : ratioCmp c d a b = - ratioCmp a b c d := by
  unfold ratioCmp
  rw [if_pos ⟨h2, h1⟩, if_pos ⟨h1, h2⟩, cmpF_swap]
/-- The first loss is the greatest so far: no loss is negative. -/
theorem best_first {p : List H3} {h : H3} (kp : regionOk p = true) (hp : p ≠ []) (k : HOk h) (hge : h.c * (supN h.a h.b p).2 ≤ (supN h.a h.b p).1) : bestL p [h] = lossF p h := by
  have ok := loss_ok kp hp k
  have B := loss_bd kp hp k
  show (if 0 ≤ ratioCmp 0 1 (lossF p h).1 (lossF p h).2 then ((0 : Int), (1 : Int)) else lossF p h) = lossF p h
  split
  · rename_i hc
    have w0 : ratioOk 0 1 = true := whole_rat (by omega)
    unfold ratioCmp at hc
    rw [if_pos ⟨w0, ok⟩] at hc
    have hd := B.d
    obtain ⟨g, a, b, e, g0, ea, eb, qa, qb, b0, hcop⟩ := gcd2_parts (n := (supN h.a h.b p).1 - h.c * (supN h.a h.b p).2) (d := (supN h.a h.b p).2 * nrm1 h) (by omega)
    have el : lossF p h = (a, b) := by
      unfold lossF
      rw [ratOf_red e qa qb]
      have ok' := ok
      unfold lossF at ok'
      rw [ratOf_red e qa qb] at ok'
      by_cases hk : ratioOk a b = true
      · rw [if_pos hk]
      · rw [if_neg hk] at ok'
        exact absurd ok' (by decide)
    rw [el] at hc ⊢
    have ha : 0 ≤ a := by
      apply Classical.byContradiction; intro hn
      have := Int.mul_neg_of_neg_of_pos (show a < 0 by omega) (show (0 : Int) < (g : Int) by omega)
      omega
    have ha0 : a = 0 := by
      unfold cmpF at hc
      split at hc
      · omega
      · rename_i h1
        split at hc
        · omega
        · omega
    subst ha0
    have hb1 : b = 1 := by
      simp at hcop
      omega
    rw [hb1]
  · rfl
theorem runR_room {r : RoomV} {n : Int} {x : List H3 × Int × Bool} (h : runR r n = (x, true)) : roomOk r = true := by
  unfold runR at h
  split at h
  · rename_i hc; exact hc.1
  · simp at h
theorem keepR_edges {r : RoomV} {p q : List H3} (h : keepR r p = (q, true)) (hp : p ≠ []) (hq : q ≠ []) : ∀ g ∈ q, g.c * (supN g.a g.b p).2 ≤ (supN g.a g.b p).1 := by
  intro g hg
  unfold keepR at h
  split at h
  · rename_i hc
    unfold keepM at h
    obtain ⟨a, h1, h2⟩ := thenL_ok h
    unfold meetQ at h2
    split at h2
    · rename_i hm
      split at h2
      · simp at h2; exact absurd h2 hq
      · injection h2 with h2 _
        subst h2
        exact meet_sup hc.2 hp (region_good hm.2.1).1 hg (show supN g.a g.b p = ((supN g.a g.b p).1, (supN g.a g.b p).2) from rfl)
    · simp at h2
  · simp at h

end Go.Proofs.YtabmfaamadbefaaGreat