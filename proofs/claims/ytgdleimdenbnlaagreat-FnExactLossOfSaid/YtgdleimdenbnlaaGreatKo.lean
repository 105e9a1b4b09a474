/- Contracts of CentreInput, IsInput and AdmitHalf, of the program and of the reference. No condition but that the arguments are ints. -/
import Derived.Test.YtgdleimdenbnlaaGreatKn
import Derived.Test.YtgdleimdenbnlaaGreatRc
import Derived.Test.YtgdleimdenbnlaaGreatRt
import Derived.Test.YtgdleimdenbnlaaGreatHs
set_option linter.unusedVariables false
set_option linter.unusedSimpArgs false
set_option linter.unusedSectionVars false
namespace Go.Proofs.YtgdleimdenbnlaaGreat
open Go.RowKit

theorem whole_rat {n : Int} (hn : -1000000000000000000 ≤ n ∧ n ≤ 1000000000000000000) : ratioOk n 1 = true := by
  have e : gcdS n 1 = 1 := by rw [gcdS_eq _ _ (by omega) (by omega)]; simp
  simp [ratioOk, e, inR]; omega
theorem ratOf_one {n : Int} (hn : -1000000000000000000 ≤ n ∧ n ≤ 1000000000000000000) : ratOf n 1 = (n, 1) := by
  have e : gcdL [n, 1] = 1 := by simp [gcdL]
  rw [ratOf_red (a := n) (b := 1) (g := 1) e (by simp) (by simp), if_pos (whole_rat hn)]
structure SlopeBd (r : RoomV) (g : H3) : Prop where
  p1 : -5000000 ≤ g.a * r.bx ∧ g.a * r.bx ≤ 5000000
  p2 : -5000000 ≤ g.b * r.by_ ∧ g.b * r.by_ ≤ 5000000
end Go.Proofs.YtgdleimdenbnlaaGreat
