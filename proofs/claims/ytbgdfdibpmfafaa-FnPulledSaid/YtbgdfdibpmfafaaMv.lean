/- Contracts of MirrorRegion, of the program and of the reference. No condition but that lengths are ints. -/
import Derived.Test.YtbgdfdibpmfafaaHf
import Derived.Test.YtbgdfdibpmfafaaCu
set_option linter.unusedSimpArgs false
set_option linter.unusedVariables false
set_option linter.unusedSectionVars false
namespace Go.Proofs.Ytbgdfdibpmfafaa
open Go.RowKit

def mirH (g : H3) : H3 := ⟨-g.a, -g.b, g.c⟩
theorem mirH_ok {g : H3} (k : HOk g) : HOk (mirH g) := by
  have h1 := k.ba
  have h2 := k.bb
  refine ⟨?_, ?_, k.bc, ?_, ?_⟩
  · show -50000 ≤ -g.a ∧ -g.a ≤ 50000; omega
  · show -50000 ≤ -g.b ∧ -g.b ≤ 50000; omega
  · have := k.nz
    unfold NZ at *
    show -g.a ≠ 0 ∨ -g.b ≠ 0
    omega
  · have := k.prim
    unfold Prim at *
    rw [gcdL3] at *
    show Nat.gcd (Nat.gcd (-g.a).natAbs (-g.b).natAbs) g.c.natAbs = 1
    rw [Int.natAbs_neg, Int.natAbs_neg]; exact this
theorem halfOf_mir {g : H3} (k : HOk g) : halfOf (-g.a) (-g.b) g.c = (mirH g, true) := by
  have h1 := k.ba
  have h2 := k.bb
  have h3 := k.bc
  have hn := k.nz
  have hp := (mirH_ok k).prim
  unfold Prim at hp
  have e : gcdL [-g.a, -g.b, g.c] = 1 := hp
  rw [halfOf_red (g := 1) (x := -g.a) (y := -g.b) (z := g.c) (by unfold halfBad NZ at *; omega) e (by simp) (by simp) (by simp)]
  exact if_pos ((halfOk_iff _).2 (mirH_ok k))
theorem own_slice2 {B k : Nat} {E : TypeId} {w : World} {v : Value} {o l : List H3} {x : H3} (hl : l = o ++ [x]) (ho : o.length = k) (h : w.ownsRow B E 3 v (k + 1) (cells3 o ++ cells3 [x])) : ∃ A c, v = .slice A (k + 1) c ∧ RB B E w A c l := by
  subst ho
  obtain ⟨A, c, e, R⟩ := own_slice1 h
  exact ⟨A, c, e, by rw [hl]; exact R⟩
theorem _root_.Go.World.ownsRow.below' {B n : Nat} {E : TypeId} {w w' : World} {v : Value} {xs : List Value} (h : w.ownsRow B E 3 v n xs) (hb : Below w.heap.size w w') : w'.ownsRow B E 3 v n xs :=
  h.kept (grownBy_of_below (o := none) hb) (by cases hv : v.ownBlock <;> simp)
theorem meetAll_eqn {hs out : List H3} {ok : Bool} {A : Option Addr} {c n : Nat} {w : World} (hn : hs.length = n) (G : ∀ g ∈ hs, HOk g) (R : R3 63 w A c hs) (hl : 0 < n ∧ n ≤ 300) (hr : Hid (meetR hs = (out, ok))) :
    Calls Try.prog 51 #[.slice A n c] w (RegPost w out ok) := by
  subst hn; exact meetAll_any G R hl hr
def movedM (hs : List H3) : List H3 × Bool := if hs = [] then ([], true) else meetR (hs.map mirH)
def mirrorR (hs : List H3) : List H3 × Bool := if regionOk hs = true then movedM hs else ([], false)
theorem map_ok {hs : List H3} (G : ∀ g ∈ hs, HOk g) : ∀ g ∈ hs.map mirH, HOk g := fun g hg => by
  obtain ⟨x, hx, rfl⟩ := List.mem_map.1 hg
  exact mirH_ok (G x hx)

theorem moved_void {n c : Nat} {A : Option Addr} {fv : Value} {w : World} (h : Hid (decide (n = 0) = true)) :
    Calls Try.prog 47 #[.agg #[.slice A n c], fv] w (RegPost w [] true) := by
  go_enter Try.func47, Try.ntmps47
  go_wp2_with ((go_at_call 13; (first | (with_reducible refine (calls_ov2 (IsVoid_eq h)).mono ?_) | refine (calls_ov (IsVoid_eq h)).mono ?_); rintro e w' ⟨rfl, x, rfl⟩))
  refine bodyPost_ret (v := .tuple #[.agg #[.slice none 0 0], .bool true]) (by simp [results, Try.results47, go_sem]) rfl ⟨none, 0, rfl, RB.nil _ _ _, (by repeat (first | exact bR | refine bO ?_ | refine bA ?_ | refine bS ?_ | refine bD ?_ | refine bN ?_))⟩

theorem meetR_short {hs out : List H3} {ok : Bool} (h : meetR hs = (out, ok)) : out.length ≤ 40 := by
  unfold meetR at h
  split at h
  · simp at h; rw [h.1]; simp
  · simp at h; rw [← h.1]; omega
theorem mirrorR_short {hs out : List H3} {ok : Bool} (h : mirrorR hs = (out, ok)) : out.length ≤ 1000 := by
  unfold mirrorR movedM at h
  split at h
  · split at h
    · simp at h; rw [h.1]; simp
    · have := meetR_short h; omega
  · simp at h; rw [h.1]; simp
end Go.Proofs.Ytbgdfdibpmfafaa
