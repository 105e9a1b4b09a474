/- Contracts of slices.Clone and of CutRegion, of the program and of the reference. No condition but that lengths are ints. -/
import Derived.Test.YtbgdfdibpmfafaaRf
import Derived.Test.YtbgdfdibpmfafaaGeo
import Derived.Lib.SliceRun
set_option linter.unusedSimpArgs false
set_option linter.unusedVariables false
set_option linter.unusedSectionVars false
namespace Go.Proofs.Ytbgdfdibpmfafaa
open Go.RowKit

set_option maxRecDepth 100000 in
theorem Clone_any {xs : List H3} {A : Option Addr} {c : Nat} {w : World} (R : R3 63 w A c xs) (hl : 0 < xs.length ∧ xs.length ≤ 5000) :
    Calls Try.prog 80 #[.slice A xs.length c] w (InsPost w.heap.size w xs) := by
  obtain ⟨g, rfl, _⟩ := R.at_ hl.1
  have hn : (binOp .eql 23 (.slice (some ⟨g, 0, none⟩) xs.length c) (.slice none 0 0)).run Try.prog w = .ok (.bool (some (⟨g, 0, none⟩ : Addr)).isNone) w := Lib.run_eql_slice_nil w _ _ _ _ _ _ _ Try.underlying23
  go_enter Try.func80, Try.ntmps80
  go_wp2_with (at_builtin; refine wpList_append_fresh rfl _ _ rfl rfl rfl (R3.alloc R _) hl ?_; intro A1 c1 w1 R1 hb1; have HB := Lib.hid hb1; clear hb1)
  go_ret
  exact ⟨_, _, rfl, R1.weak (by simp), ((Below.refl _ _).alloc (Nat.le_refl _) _).trans (HB.out.mono (by simp))⟩

/-- What CutRegion returns. -/
def cutR (hs : List H3) (h : H3) : List H3 × Bool := if halfOk h = true ∧ regionOk hs = true ∧ hs.length < 40 then (if hs = [] then ([], true) else (makeR (hs ++ [h]), true)) else ([], false)
theorem regionOk_parts {hs : List H3} (h : regionOk hs = true) (hne : hs ≠ []) : (∀ g ∈ hs, HOk g) ∧ makeR hs = hs ∧ hs.length ≤ 40 := by
  unfold regionOk at h
  simp only [hne, decide_false, Bool.false_or, Bool.and_eq_true, decide_eq_true_eq] at h
  obtain ⟨h1, h2⟩ := h
  unfold fromR at h1 h2
  split at h1
  · rename_i hc
    rw [if_pos hc] at h2
    have G := allOk hc.2
    rw [meetR_makeR G] at h1 h2
    split at h1
    · cases h1
    · rename_i h40
      rw [if_neg h40] at h2
      exact ⟨G, h2.symm, hc.1⟩
  · cases h1
theorem cut_few {hs : List H3} {h : H3} (ok : regionOk hs = true) (hne : hs ≠ []) (kh : HOk h) (hl : hs.length < 40) : meetR (hs ++ [h]) = (makeR (hs ++ [h]), true) := by
  obtain ⟨G, e, _⟩ := regionOk_parts ok hne
  have G2 : ∀ g ∈ hs ++ [h], HOk g := fun g hg => by
    rcases List.mem_append.1 hg with h1 | h1
    · exact G g h1
    · obtain rfl := List.mem_singleton.1 h1; exact kh
  rw [meetR_makeR G2, if_neg]
  have := meet_few G (rest := [h]) (fun g hg => by obtain rfl := List.mem_singleton.1 hg; exact kh) e hne
  simp at this
  omega

end Go.Proofs.Ytbgdfdibpmfafaa
