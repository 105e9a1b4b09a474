/- Contracts of PullBack, of the program and of the reference. Condition: the arguments are ints. -/
import Derived.Test.YtgdleimdenbnlaaMj
set_option linter.unusedSimpArgs false
set_option linter.unusedVariables false
set_option linter.unusedSectionVars false
namespace Go.Proofs.Ytgdleimdenbnlaa
open Go.RowKit

def pullF (a b e f q : Int) (g : H3) : H3 × Bool := halfOf (g.a * a + g.b * e) (g.a * b + g.b * f) (g.c * q)
structure MatBd (a b e f q : Int) : Prop where
  ba : -20 ≤ a ∧ a ≤ 20
  bb : -20 ≤ b ∧ b ≤ 20
  be : -20 ≤ e ∧ e ≤ 20
  bf : -20 ≤ f ∧ f ≤ 20
  bq : 1 ≤ q ∧ q ≤ 20
structure PullBd (a b e f q : Int) (g : H3) : Prop where
  p1 : -100000000000 ≤ g.a * a ∧ g.a * a ≤ 100000000000
  p2 : -100000000000 ≤ g.b * e ∧ g.b * e ≤ 100000000000
  p3 : -100000000000 ≤ g.a * b ∧ g.a * b ≤ 100000000000
  p4 : -100000000000 ≤ g.b * f ∧ g.b * f ≤ 100000000000
  p5 : -1000000000000000 ≤ g.c * q ∧ g.c * q ≤ 1000000000000000
theorem pullBd {a b e f q : Int} {g : H3} (k : HOk g) (M : MatBd a b e f q) : PullBd a b e f q g := by
  have h1 := k.ba
  have h2 := k.bb
  have h3 := k.bc
  have hq := M.bq
  have p1 := mul_bd (x := g.a) (y := a) h1 M.ba
  have p2 := mul_bd (x := g.b) (y := e) h2 M.be
  have p3 := mul_bd (x := g.a) (y := b) h1 M.bb
  have p4 := mul_bd (x := g.b) (y := f) h2 M.bf
  have p5 := mul_bd (x := g.c) (y := q) h3 (B := 20) (by omega)
  exact ⟨by omega, by omega, by omega, by omega, by omega⟩
def detI (m : List Int) : Int := m.getD 0 0 * m.getD 3 0 - m.getD 1 0 * m.getD 2 0
def turnOk (m : List Int) (q : Int) : Bool := mapOk m q && (detI m != 0)
theorem mapOk_parts {m : List Int} {q : Int} (hm : mapOk m q = true) : ∃ a b e f, m = [a, b, e, f] ∧ MatBd a b e f q := by
  unfold mapOk at hm
  simp only [Bool.and_eq_true, decide_eq_true_eq] at hm
  obtain ⟨⟨h4, hq⟩, hall⟩ := hm
  match m, h4 with
  | [a, b, e, f], _ =>
    simp only [List.all_cons, List.all_nil, Bool.and_true, Bool.and_eq_true, smallI, inR_iff] at hall
    obtain ⟨ha, hb, he, hf⟩ := hall
    have hq := inR_iff.1 hq
    exact ⟨a, b, e, f, rfl, ha, hb, he, hf, by omega⟩

set_option maxRecDepth 100000 in
set_option maxHeartbeats 4000000 in
theorem isTurnable_eq {m : List Int} {q : Int} {A : Option Addr} {c : Nat} {w : World} {v : Bool} (R : RI w A m) (hl : m.length ≤ 1000000000) (h : Hid (turnOk m q = v)) :
    Calls Try.prog 91 #[.slice A m.length c, .int .i64 q] w fun e w' => e = .returned (.bool v) ∧ Below w.heap.size w w' := by
  have h' := h.out
  clear h
  unfold turnOk at h'
  cases hm : mapOk m q with
  | false =>
    rw [hm, Bool.false_and] at h'
    subst h'
    have HM := Lib.hid hm
    clear hm
    go_enter Try.func91, Try.ntmps91
    go_wp2
    ((first | (with_reducible refine wp_region_calm2 (by kernel_rfl) (by kernel_rfl) ?_) | refine wp_region_calm (by kernel_rfl) (by kernel_rfl) ?_); (repeat (go_big_quiet_step (first | (go_at_call 122; exact calm_below (isMap_eq (by exact R.below (by repeat (first | exact bR | refine bO ?_ | refine bA ?_ | refine bS ?_ | refine bD ?_ | refine bN ?_))) hl HM))))); refine wpQuiet_nil ?_; rintro _ ⟨y, rfl⟩)
    go_wp2
    go_ret
    exact ⟨rfl, (by repeat (first | exact bR | refine bO ?_ | refine bA ?_ | refine bS ?_ | refine bD ?_ | refine bN ?_))⟩
  | true =>
    rw [hm, Bool.true_and] at h'
    obtain ⟨a, b, e, f, rfl, M⟩ := mapOk_parts hm
    have HM := Lib.hid hm
    have p1 := mul_bd M.ba M.bf
    have p2 := mul_bd M.bb M.be
    have hd : (a * f - b * e != 0) = v := h'
    obtain ⟨g, o, rfl, hg, c0, c1, c2, c3⟩ := R.four
    clear hm h'
    go_enter Try.func91, Try.ntmps91
    go_wp2
    ((first | (with_reducible refine wp_region_calm2 (by kernel_rfl) (by kernel_rfl) ?_) | refine wp_region_calm (by kernel_rfl) (by kernel_rfl) ?_); (repeat (go_big_quiet_step (first | (go_at_call 122; exact calm_below (isMap_eq (m := [a, b, e, f]) (by exact R.below (by repeat (first | exact bR | refine bO ?_ | refine bA ?_ | refine bS ?_ | refine bD ?_ | refine bN ?_))) hl HM))))); refine wpQuiet_nil ?_; rintro _ ⟨y, rfl⟩)
    go_wp2
    go_ret
    exact ⟨rfl, (by repeat (first | exact bR | refine bO ?_ | refine bA ?_ | refine bS ?_ | refine bD ?_ | refine bN ?_))⟩

end Go.Proofs.Ytgdleimdenbnlaa
