/- What the laws on regions use: the argument opened, the copies, the comparisons, the marks. Condition: rows of at most 2^20 half planes where said. -/
import Derived.Test.YtnenlgaafiifpaaLb
import Derived.Test.YtnenlgaafiifpaaRs
import Derived.OwnWalk
import Derived.Deep.Slices
import Derived.Deep.Fields
import Derived.ChangeSame
set_option linter.unusedSimpArgs false
set_option linter.unusedVariables false
set_option linter.unusedSectionVars false
namespace Go.Proofs.Ytnenlgaafiifpaa
open Go.ChangeShapes Go.WideShapes Go.ChangeAt Go.RowKit Go.Joins Go.Deep

/-- A row of half planes that came in: any address. -/
def RL (w : World) (A : Option Addr) (xs : List H3) : Prop := ∀ k (hk : k < xs.length), ∃ g o, A = some ⟨g, o, none⟩ ∧ g < w.heap.size ∧
  w.cell? ⟨g, o + k * 3, none⟩ = some (.int .i64 xs[k].a) ∧ w.cell? ⟨g, o + k * 3 + 1, none⟩ = some (.int .i64 xs[k].b) ∧ w.cell? ⟨g, o + k * 3 + 2, none⟩ = some (.int .i64 xs[k].c)
theorem RL.below {w w' : World} {A : Option Addr} {xs : List H3} (h : RL w A xs) (hb : Below w.heap.size w w') : RL w' A xs := fun k hk => by
  obtain ⟨g, o, h1, h2, h3, h4, h5⟩ := h k hk
  have := hb.size
  exact ⟨g, o, h1, by omega, (hb.cell (p := ⟨g, o + k * 3, none⟩) h2).trans h3, (hb.cell (p := ⟨g, o + k * 3 + 1, none⟩) h2).trans h4, (hb.cell (p := ⟨g, o + k * 3 + 2, none⟩) h2).trans h5⟩
theorem cell?_addr {w : World} {a : Addr} {v : Value} (h : w.cell? a = some v) : a.spot = none ∧ a.block < w.heap.size := by
  unfold World.cell? at h
  split at h
  · rename_i c t f hb
    refine ⟨?_, (Array.getElem?_eq_some_iff.1 hb).1⟩
    cases hs : a.spot with
    | none => rfl
    | some x => rw [hs] at h; simp at h
  · cases h
theorem list_of {α : Type} {P : Nat → α → Prop} : ∀ (n : Nat), (∀ i, i < n → ∃ x, P i x) → ∃ l : List α, l.length = n ∧ ∀ i (h : i < l.length), P i l[i]
  | 0, _ => ⟨[], rfl, fun i h => by simp at h⟩
  | n + 1, h => by
    obtain ⟨l, hl, hp⟩ := list_of n fun i hi => h i (by omega)
    obtain ⟨x, hx⟩ := h n (by omega)
    refine ⟨l ++ [x], by simp [hl], fun i hi => ?_⟩
    by_cases hin : i < l.length
    · rw [List.getElem_append_left hin]; exact hp i hin
    · have : i = l.length := by simp at hi; omega
      subst this
      rw [List.getElem_append_right (Nat.le_refl _)]
      simp only [Nat.sub_self, List.getElem_cons_zero]
      rw [hl]; exact hx

section
variable {H : Type} {enc : TypeId × Value → H} {w : World} {base : Nat} {spare : Nat → Bool} {held : Bool} {n : Nat}
theorem cells_half : Try.prog.cellsOf 36 = 3 := by kernel_rfl
theorem half_of_trod {cs : List Value} {y : DataW H × List MemPlace} (hl : cs.length = 3) (h : DataW.trod enc Try.prog w base spare held n 36 cs = some y) :
    ∃ g : H3, cs = [.int .i64 g.a, .int .i64 g.b, .int .i64 g.c] ∧ (-9223372036854775808 ≤ g.a ∧ g.a ≤ 9223372036854775807) ∧ (-9223372036854775808 ≤ g.b ∧ g.b ≤ 9223372036854775807) ∧ (-9223372036854775808 ≤ g.c ∧ g.c ≤ 9223372036854775807) := by
  match cs, hl with
  | [c0, c1, c2], _ =>
    obtain ⟨ys, n', _, _, _, _, hf⟩ := DataW.trod_struct Try.underlying36 h
    have f0 : DataW.trod enc Try.prog w base spare held n' 3 [c0] = ys[0]? := by simpa [cells_int] using hf 0 _ rfl
    have f1 : DataW.trod enc Try.prog w base spare held n' 3 [c1] = ys[1]? := by simpa [cells_int] using hf 1 _ rfl
    have f2 : DataW.trod enc Try.prog w base spare held n' 3 [c2] = ys[2]? := by simpa [cells_int] using hf 2 _ rfl
    have hyl : ys.length = 3 := by assumption
    obtain ⟨y0, hy0⟩ : ∃ y0, ys[0]? = some y0 := ⟨_, List.getElem?_eq_getElem (by omega)⟩
    obtain ⟨y1, hy1⟩ : ∃ y0, ys[1]? = some y0 := ⟨_, List.getElem?_eq_getElem (by omega)⟩
    obtain ⟨y2, hy2⟩ : ∃ y0, ys[2]? = some y0 := ⟨_, List.getElem?_eq_getElem (by omega)⟩
    rw [hy0] at f0
    rw [hy1] at f1
    rw [hy2] at f2
    obtain ⟨a, rfl, ba⟩ := int_of_trod f0
    obtain ⟨b, rfl, bb⟩ := int_of_trod f1
    obtain ⟨c, rfl, bc⟩ := int_of_trod f2
    exact ⟨⟨a, b, c⟩, rfl, ba, bb, bc⟩
set_option maxRecDepth 100000 in
theorem open_half {v : Value} {d : DataW H} {p : List MemPlace} {r : Reach} {b0 : Nat} (hv : Value.okWide Try.prog w r b0 36 v) (h : DataW.Trod enc Try.prog w base spare held 36 v d p) :
    ∃ g : H3, v = .agg #[.int .i64 g.a, .int .i64 g.b, .int .i64 g.c] ∧ (-9223372036854775808 ≤ g.a ∧ g.a ≤ 9223372036854775807) ∧ (-9223372036854775808 ≤ g.b ∧ g.b ≤ 9223372036854775807) ∧ (-9223372036854775808 ≤ g.c ∧ g.c ≤ 9223372036854775807) := by
  obtain ⟨⟨l⟩, rfl, hsz⟩ := okWide_struct Try.underlying36 hv
  rw [cells_half] at hsz
  obtain ⟨fuel, hf⟩ := h
  obtain ⟨g, e, h1⟩ := half_of_trod hsz hf
  simp [Value.cells] at e
  subst e
  exact ⟨g, rfl, h1⟩
/-- A row of half planes that came in. -/
theorem row_of_trod {cs : List Value} {y : DataW H × List MemPlace} (h : DataW.trod enc Try.prog w base spare held n 22 cs = some y) : ∃ (A : Option Addr) (c : Nat) (xs : List H3), cs = [.slice A xs.length c] ∧ RL w A xs ∧ xs.length ≤ c ∧ c ≤ maxLen := by
  rcases open_slice Try.underlying22 h with ⟨rfl, _⟩ | ⟨a, len, cap, m, n', D, Pl, rfl, hb, hl, hm, hmm, _, hi⟩
  · exact ⟨none, 0, [], rfl, fun k hk => by simp at hk, Nat.le_refl _, by unfold maxLen; omega⟩
  · have hlm : len ≤ m := by rw [hmm]; split <;> omega
    have cell0 : ∀ i, i < len → ∃ x : H3, w.cell? (a.add (i * 3)) = some (.int .i64 x.a) ∧ w.cell? (a.add (i * 3 + 1)) = some (.int .i64 x.b) ∧ w.cell? (a.add (i * 3 + 2)) = some (.int .i64 x.c) := by
      intro i hi'
      obtain ⟨cs', hc, ht⟩ := hi i (by omega)
      rw [cells_half] at hc
      obtain ⟨_, hcl, hat⟩ := World.cells?_some hc
      obtain ⟨g, rfl, _⟩ := half_of_trod hcl ht
      have c0 := hat 0 (by omega)
      have c1 := hat 1 (by omega)
      have c2 := hat 2 (by omega)
      rw [Go.Deep.add_add] at c0 c1 c2
      exact ⟨g, c0, c1, c2⟩
    have hall : ∀ i, i < len → ∃ x : H3, ∃ g o, (some a : Option Addr) = some ⟨g, o, none⟩ ∧ g < w.heap.size ∧ w.cell? ⟨g, o + i * 3, none⟩ = some (.int .i64 x.a) ∧ w.cell? ⟨g, o + i * 3 + 1, none⟩ = some (.int .i64 x.b) ∧ w.cell? ⟨g, o + i * 3 + 2, none⟩ = some (.int .i64 x.c) := by
      intro i hi'
      obtain ⟨x0, h0, _⟩ := cell0 0 (by omega)
      obtain ⟨x, c0, c1, c2⟩ := cell0 i hi'
      rw [show a.add (0 * 3) = a by simp [Addr.add]] at h0
      obtain ⟨sp, hbk⟩ := cell?_addr h0
      obtain ⟨g, o, sp'⟩ := a
      simp only at sp hbk
      subst sp
      rw [Addr.add_lit] at c0 c1 c2
      exact ⟨x, g, o, rfl, hbk, c0, c1, c2⟩
    obtain ⟨xs, hxl, hx⟩ := list_of len hall
    subst hxl
    exact ⟨some a, cap, xs, rfl, fun k hk => hx k hk, hl, hm⟩
set_option maxRecDepth 100000 in
theorem open_region {v : Value} {d : DataW H} {p : List MemPlace} {r : Reach} {b0 : Nat} (hv : Value.okWide Try.prog w r b0 24 v) (h : DataW.Trod enc Try.prog w base spare held 24 v d p) :
    ∃ (A : Option Addr) (c : Nat) (xs : List H3), v = .agg #[.slice A xs.length c] ∧ RL w A xs ∧ xs.length ≤ 9223372036854775807 := by
  obtain ⟨⟨l⟩, rfl, hsz⟩ := okWide_struct Try.underlying24 hv
  rw [show Try.prog.cellsOf 24 = 1 by kernel_rfl] at hsz
  match l, hsz with
  | [c0], _ =>
    obtain ⟨fuel, hf⟩ := h
    obtain ⟨ys, n', _, _, _, hyl, hg⟩ := DataW.trod_struct Try.underlying24 hf
    have f0 : DataW.trod enc Try.prog w base spare held n' 22 [c0] = ys[0]? := by simpa [show Try.prog.cellsOf 22 = 1 by kernel_rfl, Value.cells] using hg 0 _ rfl
    obtain ⟨y0, hy0⟩ : ∃ y0, ys[0]? = some y0 := ⟨_, List.getElem?_eq_getElem (by rw [hyl]; decide)⟩
    rw [hy0] at f0
    obtain ⟨A, c, xs, e, h1, h2, h3⟩ := row_of_trod f0
    injection e with e
    subst e
    exact ⟨A, c, xs, rfl, h1, by unfold maxLen at h3; omega⟩
end
end Go.Proofs.Ytnenlgaafiifpaa
