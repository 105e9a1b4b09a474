/- Contracts of the laws' markRoom, and of Kept compared, marked and held. Condition: rows of at most 2^20. -/
import Derived.Test.YtabmfaamadbefaaGreatQz
set_option linter.unusedVariables false
set_option linter.unusedSimpArgs false
set_option linter.unusedSectionVars false
namespace Go.Proofs.YtabmfaamadbefaaGreat
open Go.ChangeShapes Go.WideShapes Go.ChangeAt Go.RowKit Go.Joins
/-- What a call leaves that makes a Kept. -/
def KeptPost (w : World) (out : List H3) (kn : Int) (ks ok : Bool) (e : Ending) (w' : World) : Prop := ∃ A c, e = .returned (.tuple #[.agg #[.slice A out.length c, .int .i64 kn, .bool ks], .bool ok]) ∧ RB w.heap.size 44 w' A c out ∧ Below w.heap.size w w'
def GKTup (xs : List H3) (kn : Int) (ks ok : Bool) (w0 : World) (v : Value) (w : World) : Prop := ∃ A c, v = .tuple #[.agg #[.slice A xs.length c, .int .i64 kn, .bool ks], .bool ok] ∧ RB w0.heap.size 44 w A c xs
def GKept (xs : List H3) (kn : Int) (ks : Bool) (w0 : World) (v : Value) (w : World) : Prop := ∃ A c, v = .agg #[.slice A xs.length c, .int .i64 kn, .bool ks] ∧ RB w0.heap.size 44 w A c xs
theorem owned_ktup {T : TypeId} (h : T ≠ 44) (xs : List H3) (kn : Int) (ks ok : Bool) : Owned T (GKTup xs kn ks ok) :=
  ⟨fun w0 v w x ⟨A, c, e, R⟩ => ⟨A, c, e, R.below (below_ov _ _ (Below.refl _ _) (Nat.le_refl _))⟩, fun w0 v w b cur arr hb hs ⟨A, c, e, R⟩ => ⟨A, c, e, R.set_row hb h⟩⟩
theorem owned_kept {T : TypeId} (h : T ≠ 44) (xs : List H3) (kn : Int) (ks : Bool) : Owned T (GKept xs kn ks) :=
  ⟨fun w0 v w x ⟨A, c, e, R⟩ => ⟨A, c, e, R.below (below_ov _ _ (Below.refl _ _) (Nat.le_refl _))⟩, fun w0 v w b cur arr hb hs ⟨A, c, e, R⟩ => ⟨A, c, e, R.set_row hb h⟩⟩
theorem owned_tupT {T : TypeId} (h : T ≠ 44) (xs : List H3) (ok : Bool) : Owned T (GTup xs ok) :=
  ⟨fun w0 v w x ⟨A, c, e, R⟩ => ⟨A, c, e, R.below (below_ov _ _ (Below.refl _ _) (Nat.le_refl _))⟩, fun w0 v w b cur arr hb hs ⟨A, c, e, R⟩ => ⟨A, c, e, R.set_row hb h⟩⟩
theorem kept_cells (A : Option Addr) (n c : Nat) (kn : Int) (ks : Bool) : (Value.agg #[.slice A n c, .int .i64 kn, .bool ks]).cells.size = 3 ∧ ∀ x ∈ (Value.agg #[.slice A n c, .int .i64 kn, .bool ks]).cells.toList, x.oneCell' = true := ⟨rfl, by simp [Value.cells, Value.oneCell']⟩
end Go.Proofs.YtabmfaamadbefaaGreat