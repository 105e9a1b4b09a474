/- Bytes in the laws: the argument opened. -/
import Derived.Test.YtabmfaamadbefaaMj
import Derived.Test.YtabmfaamadbefaaCz
import Derived.OwnWalk
import Derived.Deep.Slices
import Derived.Deep.Fields
import Derived.ChangeSame
set_option linter.unusedSimpArgs false
set_option linter.unusedVariables false
set_option linter.unusedSectionVars false
namespace Go.Proofs.Ytabmfaamadbefaa
open Go.ChangeShapes Go.WideShapes Go.ChangeAt Go.RowKit Go.Joins Go.Deep

theorem wf_byte {x : Int} (h : (Lit.int .u8 x).wf = true) : 0 ≤ x ∧ x ≤ 255 := by
  simp [Lit.wf, IntKind.min, IntKind.max, IntKind.signed, IntKind.bits] at h
  omega
section
variable {H : Type} {enc : TypeId × Value → H} {w : World} {base : Nat} {spare : Nat → Bool} {held : Bool} {n : Nat}
theorem byte_of_trod {v : Value} {y : DataW H × List MemPlace}
    (h : DataW.trod enc Try.prog w base spare held n 5 [v] = some y) : ∃ x : Int, v = .int .u8 x ∧ 0 ≤ x ∧ x ≤ 255 := by
  obtain ⟨x, e, _, hx⟩ := DataW.trod_int Try.underlying5 h
  simp at e
  exact ⟨x, e, wf_byte hx⟩
theorem cells_byte : Try.prog.cellsOf 5 = 1 := by kernel_rfl
end
section
variable {H : Type} {enc : TypeId × Value → H} {w : World} {base : Nat} {spare : Nat → Bool} {held : Bool} {n : Nat}
theorem bytes_of_trod {cs : List Value} {y : DataW H × List MemPlace} (h : DataW.trod enc Try.prog w base spare held n 22 cs = some y) : ∃ (A : Option Addr) (c : Nat) (xs : List Int), cs = [.slice A xs.length c] ∧ RY w A xs ∧ xs.length ≤ c ∧ c ≤ maxLen ∧ ∀ x ∈ xs, 0 ≤ x ∧ x ≤ 255 := by
  rcases open_slice Try.underlying22 h with ⟨rfl, _⟩ | ⟨a, len, cap, m, n', D, Pl, rfl, hb, hl, hm, hmm, _, hi⟩
  · exact ⟨none, 0, [], rfl, fun k hk => by simp at hk, Nat.le_refl _, by unfold maxLen; omega, fun x hx => by cases hx⟩
  · have hlm : len ≤ m := by rw [hmm]; split <;> omega
    have cell0 : ∀ i, i < len → ∃ x : Int, w.cell? (a.add i) = some (.int .u8 x) ∧ 0 ≤ x ∧ x ≤ 255 := by
      intro i hi'
      obtain ⟨cs', hc, ht⟩ := hi i (by omega)
      rw [cells_byte] at hc
      obtain ⟨_, hcl, hat⟩ := World.cells?_some hc
      match cs', hcl with
      | [c0], _ =>
        obtain ⟨x, rfl, hx⟩ := byte_of_trod ht
        have c0 := hat 0 (by omega)
        rw [Go.Deep.add_add, Nat.mul_one, Nat.add_zero] at c0
        exact ⟨x, c0, hx⟩
    have hall : ∀ i, i < len → ∃ x : Int, (∃ g o, (some a : Option Addr) = some ⟨g, o, none⟩ ∧ g < w.heap.size ∧ w.cell? ⟨g, o + i, none⟩ = some (.int .u8 x)) ∧ 0 ≤ x ∧ x ≤ 255 := by
      intro i hi'
      obtain ⟨x0, h0, _⟩ := cell0 0 (by omega)
      obtain ⟨x, c0, hx⟩ := cell0 i hi'
      rw [show a.add 0 = a by simp [Addr.add]] at h0
      obtain ⟨sp, hbk⟩ := cell?_addr h0
      obtain ⟨g, o, sp'⟩ := a
      simp only at sp hbk
      subst sp
      rw [Addr.add_lit] at c0
      exact ⟨x, ⟨g, o, rfl, hbk, c0⟩, hx⟩
    obtain ⟨xs, hxl, hx⟩ := list_of len hall
    subst hxl
    refine ⟨some a, cap, xs, rfl, fun k hk => ?_, hl, hm, fun x hxm => ?_⟩
    · obtain ⟨⟨g, o, h1, h2, h3⟩, h4⟩ := hx k hk
      exact ⟨g, o, h1, h2, h3, h4⟩
    obtain ⟨i, hi', rfl⟩ := List.mem_iff_getElem.1 hxm
    exact (hx i hi').2
set_option maxRecDepth 100000 in
theorem open_bytes {v : Value} {d : DataW H} {p : List MemPlace} {r : Reach} {b0 : Nat} (hv : Value.okWide Try.prog w r b0 22 v) (h : DataW.Trod enc Try.prog w base spare held 22 v d p) :
    ∃ (A : Option Addr) (c : Nat) (xs : List Int), v = .slice A xs.length c ∧ RY w A xs ∧ xs.length ≤ 9223372036854775807 := by
  obtain ⟨fuel, hf⟩ := h
  obtain ⟨A, c, xs, e, h1, h2, h3, h4⟩ := bytes_of_trod hf
  obtain ⟨a, l, k, rfl⟩ := okWide_slice Try.underlying22 hv
  simp [Value.cells] at e
  exact ⟨A, c, xs, by rw [e.1, e.2.1, e.2.2], h1, by unfold maxLen at h3; omega⟩
end
end Go.Proofs.Ytabmfaamadbefaa
