/- Contracts of BeforeAngle at valid half planes and of IsWhole at whole spots of the frame. Condition: they are valid. -/
import Derived.Test.YtabmfaamadbefaaZj
set_option linter.unusedVariables false
set_option linter.unusedSimpArgs false
set_option linter.unusedSectionVars false
namespace Go.Proofs.Ytabmfaamadbefaa
open Go.RowKit

theorem R3.at2 {E : TypeId} {w : World} {g c : Nat} {xs : List H3} (h : R3 E w (some ⟨g, 0, none⟩) c xs) {k : Nat} (hk : k < xs.length) : g < w.heap.size ∧
    w.cell? ⟨g, k * 3, none⟩ = some (.int .i64 xs[k].a) ∧ w.cell? ⟨g, k * 3 + 1, none⟩ = some (.int .i64 xs[k].b) ∧ w.cell? ⟨g, k * 3 + 2, none⟩ = some (.int .i64 xs[k].c) := by
  obtain ⟨g', e, r⟩ := h.at_ hk
  injection e with e
  injection e with e
  subst e
  exact r
theorem BeforeAngle_eq {g h : H3} {v : Bool} {w : World} (kg : HOk g) (kh : HOk h) (e : Hid (before g h = v)) :
    Calls Try.prog 25 #[.agg #[.int .i64 g.a, .int .i64 g.b, .int .i64 g.c], .agg #[.int .i64 h.a, .int .i64 h.b, .int .i64 h.c]] w fun e w' => e = .returned (.bool v) ∧ Below w.heap.size w w' := by
  have h1 := (halfOk_iff g).2 kg
  have h2 := (halfOk_iff h).2 kh
  have H1 := Lib.hid h1
  have H2 := Lib.hid h2
  clear h1 h2
  go_enter Try.func25, Try.ntmps25
  go_wp2_with fail
  refine (calls_ov (impl_HalfOk_eq (h := g) (by exact H1.out))).mono ?_
  rintro e1 w1 ⟨rfl, x1, rfl⟩
  go_wp2_with fail
  refine (calls_ov (impl_HalfOk_eq (h := h) (by exact H2.out))).mono ?_
  rintro e2 w2 ⟨rfl, x2, rfl⟩
  go_wp2_with fail
  refine (calls_ov (beforeAngle_eq (g := g) (h := h) kg kh (by exact e.out))).mono ?_
  rintro e3 w3 ⟨rfl, x3, rfl⟩
  go_wp2
  go_ret
  exact ⟨rfl, (by repeat (first | exact bR | refine bO ?_ | refine bA ?_ | refine bS ?_ | refine bD ?_ | refine bN ?_))⟩
theorem IsWhole_yes {x y : Int} {w : World} (hx : -1000 ≤ x ∧ x ≤ 1000) (hy : -1000 ≤ y ∧ y ≤ 1000) :
    Calls Try.prog 27 #[.agg #[.int .i64 x, .int .i64 y, .int .i64 1]] w fun e w' => e = .returned (.bool true) ∧ Below w.heap.size w w' := by
  have hs := Lib.hid (wspot_ok hx hy)
  go_enter Try.func27, Try.ntmps27
  go_wp2_with (first | (go_at_call 40; (first | (with_reducible refine (calls_ov2 (impl_SpotOk_eq hs.out (by omega) (by omega) (by omega))).mono ?_) | refine (calls_ov (impl_SpotOk_eq hs.out (by omega) (by omega) (by omega))).mono ?_); rintro e w' ⟨rfl, x, rfl⟩))
  go_ret
  exact ⟨rfl, (by repeat (first | exact bR | refine bO ?_ | refine bA ?_ | refine bS ?_ | refine bD ?_ | refine bN ?_))⟩
end Go.Proofs.Ytabmfaamadbefaa
