/- Contracts of sides, holds, within, IsWithin and CornersOf, of the program and of the reference; a region's corners are spots. No condition but that lengths are ints. -/
import Derived.Test.YtgdleimdenbnlaaGreatCo
import Derived.Test.YtgdleimdenbnlaaGreatGeo
set_option linter.unusedSimpArgs false
set_option linter.unusedVariables false
set_option linter.unusedSectionVars false
namespace Go.Proofs.YtgdleimdenbnlaaGreat
open Go.RowKit

def okS (s : H3) : Bool := spotOk s.a s.b s.c
theorem okS_bd {s : H3} (h : okS s = true) : (1 ≤ s.c ∧ s.c ≤ 5000000000) ∧ (-1000 * s.c ≤ s.a ∧ s.a ≤ 1000 * s.c) ∧ (-1000 * s.c ≤ s.b ∧ s.b ≤ 1000 * s.c) := by
  simp only [okS, spotOk, Bool.and_eq_true] at h
  exact ⟨inR_iff.1 h.1.1.1, inR_iff.1 h.1.1.2, inR_iff.1 h.1.2⟩
def sgn (n : Int) : Int := if n < 0 then -1 else if 0 < n then 1 else 0
theorem Reg.corner_ok {hs L : List H3} (R : Reg hs L) (G : ∀ g ∈ hs, HOk g) {k : Nat} (hk : k < hs.length) :
    ∃ (hj : (k + 1) % hs.length < hs.length) (g : Nat) (a b c : Int), 0 < g ∧ crossI hs[k] hs[(k + 1) % hs.length] = (a * g, b * g, c * g) ∧ cornerH hs k = ⟨a, b, c⟩ ∧ 0 < c ∧ spotOk a b c = true := by
  have hj : (k + 1) % hs.length < hs.length := Nat.mod_lt _ (by omega)
  obtain ⟨hc, hi⟩ := R.crossing hk hj
  have hd := crossI_pos (h := hs[k]) (g := hs[(k + 1) % hs.length]) (by omega)
  have hb := crossI_bd (G _ (List.getElem_mem hk)) (G _ (List.getElem_mem hj))
  obtain ⟨_, hf, _⟩ := (insideI_iff _ _).1 hi
  obtain ⟨g, a, b, c, g0, e, es, _, c0, ok⟩ := spotOf_frame hd hb hf
  exact ⟨hj, g, a, b, c, g0, e, cornerH_at hk hj rfl (a := a) (b := b) (c := c) (ok := true) es, c0, ok⟩
theorem corners_spots {hs : List H3} (h : regionOk hs = true) : ∀ s ∈ cornersL hs, okS s = true := by
  intro s hs'
  unfold cornersL at hs'
  obtain ⟨k, hk, rfl⟩ := List.mem_map.1 hs'
  have hk := List.mem_range.1 hk
  have hne : hs ≠ [] := by rintro rfl; simp at hk
  obtain ⟨G, hm, _⟩ := regionOk_parts h hne
  obtain ⟨_, g, a, b, c, _, _, e, _, ok⟩ := (reg_of G hm hne).corner_ok G hk
  rw [e]; exact ok
theorem region_good {hs : List H3} (h : regionOk hs = true) : (∀ g ∈ hs, HOk g) ∧ hs.length ≤ 40 := by
  by_cases h0 : hs = []
  · subst h0; exact ⟨(fun g hg => nomatch hg), by simp⟩
  · obtain ⟨G, _, h40⟩ := regionOk_parts h h0; exact ⟨G, h40⟩

end Go.Proofs.YtgdleimdenbnlaaGreat
