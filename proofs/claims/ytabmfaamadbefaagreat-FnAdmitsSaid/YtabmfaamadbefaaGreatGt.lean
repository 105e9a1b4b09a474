/- Contracts of l07Grown and GrowAlong of the reference. No condition but that the arguments are ints. -/
import Derived.Test.YtabmfaamadbefaaGreatGs
import Derived.Test.YtabmfaamadbefaaGreatQz
set_option linter.unusedSimpArgs false
set_option linter.unusedVariables false
set_option linter.unusedSectionVars false
namespace Go.Proofs.YtabmfaamadbefaaGreat
open Go.RowKit
/-- The half planes of a grown region, in the reference's order. -/
def grownL (ps : List H3) (bx bY lo hi : Int) : List H3 × Bool :=
  if ps.all (fun g => (growF bx bY lo hi g).2) = true ∧ (sideF ps (dirA bx bY) (dirB bx bY)).2 = true ∧ (sideF ps (-dirA bx bY) (-dirB bx bY)).2 = true then
    (ps.map (fun g => (growF bx bY lo hi g).1) ++ [(sideF ps (dirA bx bY) (dirB bx bY)).1, (sideF ps (-dirA bx bY) (-dirB bx bY)).1], true)
  else ([], false)
theorem growM_grown {ps : List H3} {bx bY lo hi : Int} (h0 : ¬ (ps = [] ∨ (bx = 0 ∧ bY = 0))) : growM ps bx bY lo hi = if (grownL ps bx bY lo hi).2 = true then meetR (grownL ps bx bY lo hi).1 else ([], false) := by
  unfold growM grownL
  rw [if_neg h0]
  by_cases hc : ps.all (fun g => (growF bx bY lo hi g).2) = true ∧ (sideF ps (dirA bx bY) (dirB bx bY)).2 = true ∧ (sideF ps (-dirA bx bY) (-dirB bx bY)).2 = true
  · rw [if_pos ⟨hc.2.1, hc.2.2, hc.1⟩, if_pos hc, if_pos rfl]
    refine meetR_perm (fun g hg => ?_) (fun x => ?_)
    · rcases List.mem_cons.1 hg with rfl | hg
      · exact sideF_ok hc.2.1
      rcases List.mem_cons.1 hg with rfl | hg
      · exact sideF_ok hc.2.2
      obtain ⟨y, hy, rfl⟩ := List.mem_map.1 hg
      exact growF_ok (List.all_eq_true.1 hc.1 y hy)
    · simp only [List.mem_cons, List.mem_append, List.not_mem_nil, or_false]
      constructor
      · rintro (h | h | h)
        · exact .inr (.inl h)
        · exact .inr (.inr h)
        · exact .inl h
      · rintro (h | h | h)
        · exact .inr (.inr h)
        · exact .inl h
        · exact .inr (.inl h)
  · rw [if_neg (fun h => hc ⟨h.2.2, h.1, h.2.1⟩), if_neg hc, if_neg (by simp)]
theorem grownL_ok {ps out : List H3} {bx bY lo hi : Int} (h : grownL ps bx bY lo hi = (out, true)) : (∀ g ∈ out, HOk g) ∧ out.length = ps.length + 2 := by
  unfold grownL at h
  split at h
  · rename_i hc
    injection h with h _
    subst h
    refine ⟨fun g hg => ?_, by simp⟩
    rcases List.mem_append.1 hg with hg | hg
    · obtain ⟨y, hy, rfl⟩ := List.mem_map.1 hg
      exact growF_ok (List.all_eq_true.1 hc.1 y hy)
    · rcases List.mem_cons.1 hg with rfl | hg
      · exact sideF_ok hc.2.1
      · rw [List.mem_singleton.1 hg]
        exact sideF_ok hc.2.2
  · simp at h
theorem side_top {ps : List H3} {a b p q : Int} (kp : regionOk ps = true) (hne : ps ≠ []) (ha : -100 ≤ a ∧ a ≤ 100) (hb : -100 ≤ b ∧ b ≤ 100) (hz : a ≠ 0 ∨ b ≠ 0) (h : supN a b ps = (p, q)) : sideF ps a b = topF a b p q := by
  unfold sideF
  rw [h, top_half (sup_fr kp hne (by omega) (by omega) h).1 hz]

end Go.Proofs.YtabmfaamadbefaaGreat