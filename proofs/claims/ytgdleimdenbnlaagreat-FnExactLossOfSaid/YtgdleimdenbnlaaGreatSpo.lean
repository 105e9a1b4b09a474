/- Contracts of SpanOk and InSpan in the program and in the reference. Condition: the numbers are ints. -/
import Derived.Test.YtgdleimdenbnlaaGreatRc
set_option linter.unusedSimpArgs false
set_option linter.unusedVariables false
set_option linter.unusedSectionVars false
namespace Go.Proofs.YtgdleimdenbnlaaGreat
open Go.RowKit Go.Lib

theorem spec_RatioCmp_s {n d m e : Int} {w : World} {c : Int} (h : Hid (ratioCmp n d m e = c)) (hn : -9223372036854775808 ≤ n ∧ n ≤ 9223372036854775807) (hd : -9223372036854775808 ≤ d ∧ d ≤ 9223372036854775807) (hm : -9223372036854775808 ≤ m ∧ m ≤ 9223372036854775807) (he : -9223372036854775808 ≤ e ∧ e ≤ 9223372036854775807) :
    Calls Tryz.prog 148 #[.agg #[.int .i64 n, .int .i64 d], .agg #[.int .i64 m, .int .i64 e]] w fun e' w' => e' = .returned (.int .i64 c) ∧ Below w.heap.size w w' := by
  obtain rfl := h.out; exact spec_RatioCmp_any n d m e w hn hd hm he

section
variable {n d m e u v : Int}
end
end Go.Proofs.YtgdleimdenbnlaaGreat
