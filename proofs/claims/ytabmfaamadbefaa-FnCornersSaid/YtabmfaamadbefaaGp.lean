/- Plain: growth along a direction, half plane by half plane. No program. -/
import Derived.Test.YtabmfaamadbefaaEp
import Derived.Test.YtabmfaamadbefaaKn
set_option linter.unusedSimpArgs false
set_option linter.unusedVariables false
set_option linter.unusedSectionVars false
namespace Go.Proofs.Ytabmfaamadbefaa
open Go.RowKit

def maxI (a b : Int) : Int := if a ≤ b then b else a
def growF (bx bY lo hi : Int) (g : H3) : H3 × Bool := halfOf g.a g.b (g.c + max (-lo * (g.a * bx + g.b * bY)) (-hi * (g.a * bx + g.b * bY)))
def sideF (ps : List H3) (a b : Int) : H3 × Bool := halfOf (a * (supN a b ps).2) (b * (supN a b ps).2) (supN a b ps).1
def dirA (bx bY : Int) : Int := -bY / (gcdL [bx, bY] : Nat)
def dirB (bx bY : Int) : Int := bx / (gcdL [bx, bY] : Nat)
structure GrowBd (bx bY lo hi : Int) : Prop where
  bx : -100 ≤ bx ∧ bx ≤ 100
  bY : -100 ≤ bY ∧ bY ≤ 100
  lo : -1000 ≤ lo ∧ lo ≤ 1000
  hi : -1000 ≤ hi ∧ hi ≤ 1000
def growM (ps : List H3) (bx bY lo hi : Int) : List H3 × Bool :=
  if ps = [] ∨ (bx = 0 ∧ bY = 0) then (ps, true)
  else if (sideF ps (dirA bx bY) (dirB bx bY)).2 = true ∧ (sideF ps (-dirA bx bY) (-dirB bx bY)).2 = true ∧ ps.all (fun g => (growF bx bY lo hi g).2) = true then
    meetR ((sideF ps (dirA bx bY) (dirB bx bY)).1 :: (sideF ps (-dirA bx bY) (-dirB bx bY)).1 :: ps.map fun g => (growF bx bY lo hi g).1)
  else ([], false)
def growOk (ps : List H3) (bx bY lo hi : Int) : Bool := inR bx (-100) 100 && inR bY (-100) 100 && rangeB lo hi && decide (ps.length ≤ 38) && regionOk ps
def growR (ps : List H3) (bx bY lo hi : Int) : List H3 × Bool := if growOk ps bx bY lo hi = true then growM ps bx bY lo hi else ([], false)
theorem growOk_parts {ps : List H3} {bx bY lo hi : Int} (h : growOk ps bx bY lo hi = true) : GrowBd bx bY lo hi ∧ ps.length ≤ 38 ∧ regionOk ps = true := by
  unfold growOk rangeB at h
  simp only [Bool.and_eq_true, inR_iff, decide_eq_true_eq] at h
  obtain ⟨⟨⟨⟨h1, h2⟩, h3, h4⟩, h5⟩, h6⟩ := h
  exact ⟨⟨h1, h2, h3, by omega⟩, h5, h6⟩
theorem growM_short {ps out : List H3} {bx bY lo hi : Int} {ok : Bool} (hl : ps.length ≤ 1000) (h : growM ps bx bY lo hi = (out, ok)) : out.length ≤ 1000 := by
  unfold growM at h
  split at h
  · simp at h; rw [← h.1]; exact hl
  · split at h
    · have := meetR_short h; omega
    · simp at h; rw [h.1]; simp
theorem growR_short {ps out : List H3} {bx bY lo hi : Int} {ok : Bool} (h : growR ps bx bY lo hi = (out, ok)) : out.length ≤ 1000 := by
  unfold growR at h
  split at h
  · rename_i hc
    have := (growOk_parts hc).2.1
    exact growM_short (by omega) h
  · simp at h; rw [h.1]; simp
theorem growF_ok {bx bY lo hi : Int} {g : H3} (h : (growF bx bY lo hi g).2 = true) : HOk (growF bx bY lo hi g).1 := halfOf_ok (v := (growF bx bY lo hi g).2) rfl h
theorem sideF_ok {ps : List H3} {a b : Int} (h : (sideF ps a b).2 = true) : HOk (sideF ps a b).1 := halfOf_ok (v := (sideF ps a b).2) rfl h
theorem growM_ok {ps out : List H3} {bx bY lo hi : Int} (hp : regionOk ps = true) (h : growM ps bx bY lo hi = (out, true)) : regionOk out = true := by
  unfold growM at h
  split at h
  · injection h with h _; rw [← h]; exact hp
  · split at h
    · rename_i hc
      refine meetR_ok (fun g hg => ?_) h
      rcases List.mem_cons.1 hg with rfl | hg
      · exact sideF_ok hc.1
      · rcases List.mem_cons.1 hg with rfl | hg
        · exact sideF_ok hc.2.1
        · obtain ⟨x, hx, rfl⟩ := List.mem_map.1 hg
          exact growF_ok (List.all_eq_true.1 hc.2.2 x hx)
    · simp at h
theorem meetR_perm {l m : List H3} (ok : ∀ g ∈ l, HOk g) (h : ∀ x, x ∈ l ↔ x ∈ m) : meetR l = meetR m := by
  rw [meetR_makeR ok, meetR_makeR (fun g hg => ok g ((h g).2 hg)), makeR_mem_ext ok h]
theorem grow_bd {bx bY lo hi : Int} {g : H3} (k : HOk g) (B : GrowBd bx bY lo hi) :
    (-5000000 ≤ g.a * bx ∧ g.a * bx ≤ 5000000) ∧ (-5000000 ≤ g.b * bY ∧ g.b * bY ≤ 5000000) ∧ (-10000000000 ≤ -lo * (g.a * bx + g.b * bY) ∧ -lo * (g.a * bx + g.b * bY) ≤ 10000000000) ∧ (-10000000000 ≤ -hi * (g.a * bx + g.b * bY) ∧ -hi * (g.a * bx + g.b * bY) ≤ 10000000000) := by
  have h1 := mul_bd (x := g.a) (y := bx) k.ba B.bx
  have h2 := mul_bd (x := g.b) (y := bY) k.bb B.bY
  have hl := B.lo
  have hh := B.hi
  have h3 := mul_bd (x := -lo) (y := g.a * bx + g.b * bY) (A := 1000) (B := 10000000) (by omega) (by omega)
  have h4 := mul_bd (x := -hi) (y := g.a * bx + g.b * bY) (A := 1000) (B := 10000000) (by omega) (by omega)
  exact ⟨by omega, by omega, by omega, by omega⟩
theorem dir_bd {bx bY : Int} (h1 : -100 ≤ bx ∧ bx ≤ 100) (h2 : -100 ≤ bY ∧ bY ≤ 100) (h0 : ¬ (bx = 0 ∧ bY = 0)) :
    ∃ (g : Nat) (a b : Int), gcdL [bx, bY] = g ∧ 0 < g ∧ g ≤ 100 ∧ -bY = a * g ∧ bx = b * g ∧ dirA bx bY = a ∧ dirB bx bY = b ∧ (-100 ≤ a ∧ a ≤ 100) ∧ (-100 ≤ b ∧ b ≤ 100) ∧ (a ≠ 0 ∨ b ≠ 0) := by
  have e : gcdL [bx, bY] = Nat.gcd bx.natAbs bY.natAbs := by simp [gcdL]
  have g0 : 0 < Nat.gcd bx.natAbs bY.natAbs := by
    by_cases hb : bx = 0
    · exact Nat.gcd_pos_of_pos_right _ (by omega)
    · exact Nat.gcd_pos_of_pos_left _ (by omega)
  have g1 : Nat.gcd bx.natAbs bY.natAbs ≤ 100 := by
    by_cases hb : bx = 0
    · exact Nat.le_trans (Nat.gcd_le_right _ (by omega)) (by omega)
    · exact Nat.le_trans (Nat.gcd_le_left _ (by omega)) (by omega)
  obtain ⟨b, hb⟩ : ((Nat.gcd bx.natAbs bY.natAbs : Nat) : Int) ∣ bx := Int.ofNat_dvd_left.2 (Nat.gcd_dvd_left _ _)
  obtain ⟨a', ha'⟩ : ((Nat.gcd bx.natAbs bY.natAbs : Nat) : Int) ∣ bY := Int.ofNat_dvd_left.2 (Nat.gcd_dvd_right _ _)
  generalize hg : Nat.gcd bx.natAbs bY.natAbs = g at *
  have ea : -bY = -a' * g := by rw [ha']; grind
  have eb : bx = b * g := by rw [hb, Int.mul_comm]
  have ma := mul_le_bd (a := -a') (M := 100) g0 (by omega) (by rw [← ea]; omega)
  have mb := mul_le_bd (a := b) (M := 100) g0 (by omega) (by rw [← eb]; exact h1)
  refine ⟨g, -a', b, e, g0, g1, ea, eb, ?_, ?_, ma, mb, ?_⟩
  · unfold dirA; rw [e, ea]; exact Int.mul_ediv_cancel _ (by omega)
  · unfold dirB; rw [e, eb]; exact Int.mul_ediv_cancel _ (by omega)
  · apply Classical.byContradiction
    intro hn
    have ha0 : -a' = 0 := by omega
    have hb0 : b = 0 := by omega
    rw [ha0, Int.zero_mul] at ea
    rw [hb0, Int.zero_mul] at eb
    omega
end Go.Proofs.Ytabmfaamadbefaa
