/- Contracts of SupportOf and FarthestCorner of the program. No condition but that lengths are ints. -/
import Derived.Test.YtgdleimdenbnlaaSv
set_option linter.unusedSimpArgs false
set_option linter.unusedVariables false
set_option linter.unusedSectionVars false
namespace Go.Proofs.Ytgdleimdenbnlaa
open Go.RowKit Go.Shelf

theorem isCoef_any {n : Int} {v : Bool} {w : World} (h : Hid (inR n (-50000) 50000 = v)) : Calls Try.prog 100 #[.int .i64 n] w fun e w' => e = .returned (.bool v) ∧ w = w' := isCoef_eq h.out
theorem sup_shape (hs : List H3) (a b : Int) : (supOk hs a b = false ∧ (decide (hs.length = 0) = true ∨ (decide (hs.length = 0) = false ∧ inR a (-50000) 50000 = false) ∨ (decide (hs.length = 0) = false ∧ inR a (-50000) 50000 = true ∧ inR b (-50000) 50000 = false) ∨ (decide (hs.length = 0) = false ∧ inR a (-50000) 50000 = true ∧ inR b (-50000) 50000 = true ∧ regionOk hs = false))) ∨
    (supOk hs a b = true ∧ decide (hs.length = 0) = false ∧ inR a (-50000) 50000 = true ∧ inR b (-50000) 50000 = true ∧ regionOk hs = true ∧ hs ≠ []) := by
  by_cases h0 : hs = []
  · subst h0; left; exact ⟨by simp [supOk], .inl rfl⟩
  · have e : decide (hs.length = 0) = false := decide_eq_false (fun e => h0 (List.length_eq_zero_iff.1 e))
    have e2 : decide (hs ≠ []) = true := decide_eq_true h0
    unfold supOk
    rw [e, e2]
    simp only [Bool.true_and]
    generalize inR a (-50000) 50000 = y
    generalize inR b (-50000) 50000 = z
    generalize regionOk hs = t
    cases y <;> cases z <;> cases t <;> simp [h0]
end Go.Proofs.Ytgdleimdenbnlaa
