/- Several texts in one: Pb, Pq. Each says its own conditions. -/
import Derived.Test.YtabmfaamadbefaaMj
/- Contracts of PullBack, of the program and of the reference. Condition: the arguments are ints. -/
set_option linter.unusedSimpArgs false
set_option linter.unusedVariables false
set_option linter.unusedSectionVars false
namespace Go.Proofs.Ytabmfaamadbefaa
open Go.RowKit

def pullF (a b e f q : Int) (g : H3) : H3 × Bool := halfOf (g.a * a + g.b * e) (g.a * b + g.b * f) (g.c * q)
structure MatBd (a b e f q : Int) : Prop where
  ba : -20 ≤ a ∧ a ≤ 20
  bb : -20 ≤ b ∧ b ≤ 20
  be : -20 ≤ e ∧ e ≤ 20
  bf : -20 ≤ f ∧ f ≤ 20
  bq : 1 ≤ q ∧ q ≤ 20
structure PullBd (a b e f q : Int) (g : H3) : Prop where
  p1 : -100000000000 ≤ g.a * a ∧ g.a * a ≤ 100000000000
  p2 : -100000000000 ≤ g.b * e ∧ g.b * e ≤ 100000000000
  p3 : -100000000000 ≤ g.a * b ∧ g.a * b ≤ 100000000000
  p4 : -100000000000 ≤ g.b * f ∧ g.b * f ≤ 100000000000
  p5 : -1000000000000000 ≤ g.c * q ∧ g.c * q ≤ 1000000000000000
theorem pullBd {a b e f q : Int} {g : H3} (k : HOk g) (M : MatBd a b e f q) : PullBd a b e f q g := by
  have h1 := k.ba
  have h2 := k.bb
  have h3 := k.bc
  have hq := M.bq
  have p1 := mul_bd (x := g.a) (y := a) h1 M.ba
  have p2 := mul_bd (x := g.b) (y := e) h2 M.be
  have p3 := mul_bd (x := g.a) (y := b) h1 M.bb
  have p4 := mul_bd (x := g.b) (y := f) h2 M.bf
  have p5 := mul_bd (x := g.c) (y := q) h3 (B := 20) (by omega)
  exact ⟨by omega, by omega, by omega, by omega, by omega⟩
def detI (m : List Int) : Int := m.getD 0 0 * m.getD 3 0 - m.getD 1 0 * m.getD 2 0
def turnOk (m : List Int) (q : Int) : Bool := mapOk m q && (detI m != 0)
theorem mapOk_parts {m : List Int} {q : Int} (hm : mapOk m q = true) : ∃ a b e f, m = [a, b, e, f] ∧ MatBd a b e f q := by
  unfold mapOk at hm
  simp only [Bool.and_eq_true, decide_eq_true_eq] at hm
  obtain ⟨⟨h4, hq⟩, hall⟩ := hm
  match m, h4 with
  | [a, b, e, f], _ =>
    simp only [List.all_cons, List.all_nil, Bool.and_true, Bool.and_eq_true, smallI, inR_iff] at hall
    obtain ⟨ha, hb, he, hf⟩ := hall
    have hq := inR_iff.1 hq
    exact ⟨a, b, e, f, rfl, ha, hb, he, hf, by omega⟩

end Go.Proofs.Ytabmfaamadbefaa

/- Contracts of PullBack, of the program and of the reference. Condition: the arguments are ints. -/
set_option linter.unusedSimpArgs false
set_option linter.unusedVariables false
set_option linter.unusedSectionVars false
namespace Go.Proofs.Ytabmfaamadbefaa
open Go.RowKit

def pullR (m : List Int) (q : Int) (hs : List H3) : List H3 × Bool := if turnOk m q = true ∧ regionOk hs = true then movedF (pullF (m.getD 0 0) (m.getD 1 0) (m.getD 2 0) (m.getD 3 0) q) hs else ([], false)
theorem pullR_short {m : List Int} {q : Int} {hs out : List H3} {ok : Bool} (h : pullR m q hs = (out, ok)) : out.length ≤ 1000 := by
  unfold pullR at h
  split at h
  · have := movedF_short h; omega
  · simp at h; rw [h.1]; simp

theorem turnOk_parts {m : List Int} {q : Int} (hm : turnOk m q = true) : mapOk m q = true ∧ ∃ a b e f, m = [a, b, e, f] ∧ MatBd a b e f q ∧ (a * f - b * e == 0) = false := by
  unfold turnOk at hm
  rw [Bool.and_eq_true] at hm
  obtain ⟨a, b, e, f, rfl, M⟩ := mapOk_parts hm.1
  refine ⟨hm.1, a, b, e, f, rfl, M, ?_⟩
  have h2 : (a * f - b * e != 0) = true := hm.2
  simpa using h2

end Go.Proofs.Ytabmfaamadbefaa
