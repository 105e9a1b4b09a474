/- Contracts of sides, holds, within, IsWithin and CornersOf, of the program and of the reference; a region's corners are spots. No condition but that lengths are ints. -/
import Derived.Test.YtgdleimdenbnlaaCo
import Derived.Test.YtgdleimdenbnlaaGeo
set_option linter.unusedSimpArgs false
set_option linter.unusedVariables false
set_option linter.unusedSectionVars false
namespace Go.Proofs.Ytgdleimdenbnlaa
open Go.RowKit

def okS (s : H3) : Bool := spotOk s.a s.b s.c
theorem okS_bd {s : H3} (h : okS s = true) : (1 ≤ s.c ∧ s.c ≤ 5000000000) ∧ (-1000 * s.c ≤ s.a ∧ s.a ≤ 1000 * s.c) ∧ (-1000 * s.c ≤ s.b ∧ s.b ≤ 1000 * s.c) := by
  simp only [okS, spotOk, Bool.and_eq_true] at h
  exact ⟨inR_iff.1 h.1.1.1, inR_iff.1 h.1.1.2, inR_iff.1 h.1.2⟩
def sideI (h s : H3) : Int := h.a * s.a + h.b * s.b - h.c * s.c
def sgn (n : Int) : Int := if n < 0 then -1 else if 0 < n then 1 else 0
theorem side_bd {h s : H3} (k : HOk h) (ks : okS s = true) : (-250000000000000000 ≤ h.a * s.a ∧ h.a * s.a ≤ 250000000000000000) ∧ (-250000000000000000 ≤ h.b * s.b ∧ h.b * s.b ≤ 250000000000000000) ∧ (-500000000000000000 ≤ h.c * s.c ∧ h.c * s.c ≤ 500000000000000000) := by
  obtain ⟨b1, b2, b3⟩ := okS_bd ks
  have m1 := mul_bd (A := 50000) (B := 5000000000000) k.ba (y := s.a) (by omega)
  have m2 := mul_bd (A := 50000) (B := 5000000000000) k.bb (y := s.b) (by omega)
  have m3 := mul_bd (A := 100000000) (B := 5000000000) k.bc (y := s.c) (by omega)
  omega
/-- A spot lies in the region of these half planes. -/
def hasL (hs : List H3) (s : H3) : Bool := decide (hs ≠ []) && hs.all fun h => decide (sideI h s ≤ 0)
def withinL (ps qs : List H3) : Bool := (cornersL ps).all (hasL qs)
def isWithinR (ps qs : List H3) : Bool := regionOk ps && regionOk qs && withinL ps qs
def cornersR (hs : List H3) : List H3 := if regionOk hs = true then cornersL hs else []
theorem cornersR_short {hs out : List H3} (h : cornersR hs = out) : out.length ≤ 1000 := by
  unfold cornersR at h
  split at h
  · rename_i k
    rw [← h, cornersL_length]
    by_cases h0 : hs = []
    · rw [h0]; simp
    · have := (regionOk_parts k h0).2.2; omega
  · rw [← h]; simp
theorem Reg.corner_ok {hs L : List H3} (R : Reg hs L) (G : ∀ g ∈ hs, HOk g) {k : Nat} (hk : k < hs.length) :
    ∃ (hj : (k + 1) % hs.length < hs.length) (g : Nat) (a b c : Int), 0 < g ∧ crossI hs[k] hs[(k + 1) % hs.length] = (a * g, b * g, c * g) ∧ cornerH hs k = ⟨a, b, c⟩ ∧ 0 < c ∧ spotOk a b c = true := by
  have hj : (k + 1) % hs.length < hs.length := Nat.mod_lt _ (by omega)
  obtain ⟨hc, hi⟩ := R.crossing hk hj
  have hd := crossI_pos (h := hs[k]) (g := hs[(k + 1) % hs.length]) (by omega)
  have hb := crossI_bd (G _ (List.getElem_mem hk)) (G _ (List.getElem_mem hj))
  obtain ⟨_, hf, _⟩ := (insideI_iff _ _).1 hi
  obtain ⟨g, a, b, c, g0, e, es, _, c0, ok⟩ := spotOf_frame hd hb hf
  exact ⟨hj, g, a, b, c, g0, e, cornerH_at hk hj rfl (a := a) (b := b) (c := c) (ok := true) es, c0, ok⟩
theorem corners_spots {hs : List H3} (h : regionOk hs = true) : ∀ s ∈ cornersL hs, okS s = true := by
  intro s hs'
  unfold cornersL at hs'
  obtain ⟨k, hk, rfl⟩ := List.mem_map.1 hs'
  have hk := List.mem_range.1 hk
  have hne : hs ≠ [] := by rintro rfl; simp at hk
  obtain ⟨G, hm, _⟩ := regionOk_parts h hne
  obtain ⟨_, g, a, b, c, _, _, e, _, ok⟩ := (reg_of G hm hne).corner_ok G hk
  rw [e]; exact ok
theorem region_good {hs : List H3} (h : regionOk hs = true) : (∀ g ∈ hs, HOk g) ∧ hs.length ≤ 40 := by
  by_cases h0 : hs = []
  · subst h0; exact ⟨(fun g hg => nomatch hg), by simp⟩
  · obtain ⟨G, _, h40⟩ := regionOk_parts h h0; exact ⟨G, h40⟩

theorem signOf_any {n v : Int} {w : World} (h : Hid (sgn n = v)) : Calls Try.prog 60 #[.int .i64 n] w fun e w' => e = .returned (.int .i64 v) ∧ w = w' := by
  have h' := h.out
  unfold sgn at h'
  by_cases h1 : n < 0
  · rw [if_pos h1] at h'
    subst h'
    go_enter Try.func60, Try.ntmps60
    go_wp2
    go_ret
    exact ⟨rfl, rfl⟩
  · rw [if_neg h1] at h'
    by_cases h2 : 0 < n
    · rw [if_pos h2] at h'
      subst h'
      go_enter Try.func60, Try.ntmps60
      go_wp2
      go_ret
      exact ⟨rfl, rfl⟩
    · rw [if_neg h2] at h'
      subst h'
      go_enter Try.func60, Try.ntmps60
      go_wp2
      go_ret
      exact ⟨rfl, rfl⟩
theorem sgn_pos {n : Int} : 0 < sgn n ↔ 0 < n := by unfold sgn; split <;> (try split) <;> omega
theorem has_take {hs : List H3} {s : H3} {k : Nat} (hk : k < hs.length) (h : (hs.take k).all (fun h => decide (sideI h s ≤ 0)) = true) (hn : ¬ 0 < sgn (sideI hs[k] s)) : (hs.take (k + 1)).all (fun h => decide (sideI h s ≤ 0)) = true := by
  rw [all_take_succ _ _ _ hk, h, decide_eq_true (by rw [sgn_pos] at hn; omega)]; rfl
theorem has_false {hs : List H3} {s : H3} {k : Nat} (hk : k < hs.length) (hn : 0 < sgn (sideI hs[k] s)) : hasL hs s = false := by
  unfold hasL
  rw [Bool.and_eq_false_iff]; right
  rw [List.all_eq_false]
  exact ⟨hs[k], List.getElem_mem hk, by rw [sgn_pos] at hn; simp; omega⟩
theorem has_end {hs : List H3} {s : H3} (h : (hs.take hs.length).all (fun h => decide (sideI h s ≤ 0)) = true) : hasL hs s = decide (hs ≠ []) := by
  rw [List.take_length] at h
  unfold hasL; rw [h, Bool.and_true]

end Go.Proofs.Ytgdleimdenbnlaa
