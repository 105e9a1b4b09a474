/- Contracts of RoomOk, of the program and of the reference. No condition but that lengths are ints. -/
import Derived.Test.YtabmfaamadbefaaKm
set_option linter.unusedVariables false
set_option linter.unusedSimpArgs false
set_option linter.unusedSectionVars false
namespace Go.Proofs.Ytabmfaamadbefaa
open Go.RowKit

def rangeB (lo hi : Int) : Bool := inR lo (-1000) 1000 && inR hi lo 1000
def roomOk (r : RoomV) : Bool := turnOk r.m r.q && inR r.bx (-100) 100 && inR r.by_ (-100) 100 && rangeB r.lo r.hi && !decide (r.ns.length = 0) && !decide (r.ls.length = 0) && regionOk r.ns && regionOk r.ls
structure RoomP (r : RoomV) : Prop where
  tk : turnOk r.m r.q = true
  bx : -100 ≤ r.bx ∧ r.bx ≤ 100
  by_ : -100 ≤ r.by_ ∧ r.by_ ≤ 100
  lo : -1000 ≤ r.lo ∧ r.lo ≤ 1000
  hi : r.lo ≤ r.hi ∧ r.hi ≤ 1000
  ns : r.ns ≠ []
  ls : r.ls ≠ []
  nk : regionOk r.ns = true
  lk : regionOk r.ls = true
theorem roomOk_parts {r : RoomV} (h : roomOk r = true) : RoomP r := by
  unfold roomOk rangeB at h
  simp only [Bool.and_eq_true, inR_iff, Bool.not_eq_true', decide_eq_false_iff_not] at h
  obtain ⟨⟨⟨⟨⟨⟨⟨h1, h2⟩, h3⟩, h4, h5⟩, h6⟩, h7⟩, h8⟩, h9⟩ := h
  exact ⟨h1, h2, h3, h4, h5, fun e => h6 (by rw [e]; rfl), fun e => h7 (by rw [e]; rfl), h8, h9⟩
theorem isDrive_eq {n : Int} {v : Bool} {w : World} (h : inR n (-100) 100 = v) : Calls Try.prog 60 #[.int .i64 n] w fun e w' => e = .returned (.bool v) ∧ w = w' := by
  go_enter Try.func60, Try.ntmps60
  go_wp2_with ((go_at_call 69; refine (inRange_eq h).mono ?_; rintro e w' ⟨rfl, rfl⟩))
  go_ret
  exact ⟨rfl, rfl⟩
theorem isRange_eq {a b : Int} {v : Bool} {w : World} (h : rangeB a b = v) : Calls Try.prog 61 #[.int .i64 a, .int .i64 b] w fun e w' => e = .returned (.bool v) ∧ w = w' := by
  have h' : v = true ↔ (-1000 ≤ a ∧ a ≤ 1000) ∧ a ≤ b ∧ b ≤ 1000 := by rw [← h]; unfold rangeB; rw [Bool.and_eq_true, inR_iff, inR_iff]
  clear h
  by_cases h1 : -1000 ≤ a
  · by_cases h2 : a ≤ b
    · by_cases h3 : b ≤ 1000
      · obtain rfl : v = true := h'.2 ⟨⟨h1, by omega⟩, h2, h3⟩
        clear h'
        go_enter Try.func61, Try.ntmps61
        go_wp2
        go_ret
        exact ⟨rfl, rfl⟩
      · obtain rfl : v = false := by cases v <;> simp at h' ⊢; omega
        clear h'
        go_enter Try.func61, Try.ntmps61
        go_wp2
        go_ret
        exact ⟨rfl, rfl⟩
    · obtain rfl : v = false := by cases v <;> simp at h' ⊢; omega
      clear h'
      go_enter Try.func61, Try.ntmps61
      go_wp2
      go_ret
      exact ⟨rfl, rfl⟩
  · obtain rfl : v = false := by cases v <;> simp at h' ⊢; omega
    clear h'
    go_enter Try.func61, Try.ntmps61
    go_wp2
    go_ret
    exact ⟨rfl, rfl⟩

end Go.Proofs.Ytabmfaamadbefaa
