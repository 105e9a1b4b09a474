/- Contract of ShiftSpot at whole spots and short steps. Condition: coordinates and steps are within the bounds that are named. -/
import Derived.Test.YtabmfaamadbefaaMj
import Derived.Test.YtabmfaamadbefaaZd
set_option linter.unusedSimpArgs false
set_option linter.unusedVariables false
set_option linter.unusedSectionVars false
namespace Go.Proofs.Ytabmfaamadbefaa
open Go.RowKit

set_option maxRecDepth 100000 in
set_option maxHeartbeats 4000000 in
theorem ShiftSpot_whole {sx sy dx dy X Y : Int} {w : World} (hx : -100 ≤ sx ∧ sx ≤ 100) (hy : -100 ≤ sy ∧ sy ≤ 100) (hdx : -200 ≤ dx ∧ dx ≤ 200) (hdy : -200 ≤ dy ∧ dy ≤ 200) (eX : sx + dx = X) (eY : sy + dy = Y) :
    Calls Try.prog 31 #[.agg #[.int .i64 sx, .int .i64 sy, .int .i64 1], .int .i64 dx, .int .i64 dy] w fun en w' => en = .returned (.tuple #[.agg #[.int .i64 X, .int .i64 Y, .int .i64 1], .bool true]) ∧ Below w.heap.size w w' := by
  have hs := wspot_ok (x := sx) (y := sy) (by omega) (by omega)
  have s1 : inR dx (-2000) 2000 = true := inR_iff.2 (by omega)
  have s2 : inR dy (-2000) 2000 = true := inR_iff.2 (by omega)
  have HR := Lib.hid (whole_of (x := X) (y := Y) (by omega) (by omega))
  subst eX
  subst eY
  go_enter Try.func31, Try.ntmps31
  go_wp2_with (first | (go_at_call 40; (first | (with_reducible refine (calls_ov2 (impl_SpotOk_eq hs (by omega) (by omega) (by omega))).mono ?_) | refine (calls_ov (impl_SpotOk_eq hs (by omega) (by omega) (by omega))).mono ?_); rintro e w' ⟨rfl, x, rfl⟩) | (go_at_call 49; refine (isStep_eq (by first | exact s1 | exact s2)).mono ?_; rintro e w' ⟨rfl, rfl⟩) | (go_at_call 59; (first | (with_reducible refine (calls_ov2 (impl_SpotOf_eq HR (by omega) (by omega) (by omega))).mono ?_) | refine (calls_ov (impl_SpotOf_eq HR (by omega) (by omega) (by omega))).mono ?_); rintro e w' ⟨rfl, x, rfl⟩))
  refine bodyPost_ret (v := .tuple #[.agg #[.int .i64 (sx + dx), .int .i64 (sy + dy), .int .i64 1], .bool true]) (by simp [results, Try.results31, go_sem]) rfl ⟨rfl, ?_⟩
  (repeat (first | exact bR | refine bO ?_ | refine bA ?_ | refine bS ?_ | refine bD ?_ | refine bN ?_))
end Go.Proofs.Ytabmfaamadbefaa
