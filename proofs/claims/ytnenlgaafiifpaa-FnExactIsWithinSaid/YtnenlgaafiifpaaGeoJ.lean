/- Plain: the borders of two neighbours of a region cross in a spot of it. No program. -/
import Derived.Test.YtnenlgaafiifpaaGeoI
namespace Go.Proofs.Ytnenlgaafiifpaa

theorem cross_negl (g h : H3) : cross (negH g) h = - cross g h := by unfold cross negH; grind
theorem cross_negr (g h : H3) : cross g (negH h) = - cross g h := by unfold cross negH; grind
theorem nz_neg {h : H3} (n : NZ h) : NZ (negH h) := by unfold NZ negH at *; simp only; omega
/-- e, f in one half, g in the other. -/
theorem turn_late {e f g : H3} (ne : NZ e) (nf : NZ f) (ng : NZ g) (h1 : upB e = upB f) (h2 : upB g = !upB e) (p : 0 < cross e f) (q : 0 < cross e g) : 0 < cross f g := by
  have u : upB (negH g) = upB e := by rw [upB_neg ng, h2, Bool.not_not]
  have r := cross_trans (nz_neg ng) ne nf u h1 (by rw [cross_negl, cross_anti e g]; omega) p
  rw [cross_negl, cross_anti f g] at r; omega
/-- e in one half, f, g in the other. -/
theorem turn_early {e f g : H3} (ne : NZ e) (nf : NZ f) (ng : NZ g) (h1 : upB f = upB g) (h2 : upB f = !upB e) (p : 0 < cross f g) (q : 0 < cross e g) : 0 < cross e f := by
  have u : upB g = upB (negH e) := by rw [upB_neg ne, ← h2, h1]
  have r := cross_trans nf ng (nz_neg ne) h1 u p (by rw [cross_negr, cross_anti e g]; omega)
  rw [cross_negr, cross_anti e f] at r; omega
theorem between_up {e f g : H3} (ne : NZ e) (nf : NZ f) (ng : NZ g) (h1 : before e f = true) (h2 : before f g = true) (h3 : 0 < cross e g) : 0 < cross e f ∧ 0 < cross f g := by
  rcases (before_iff e f).1 h1 with ⟨ue, uf⟩ | ⟨u1, c1⟩
  · rcases (before_iff f g).1 h2 with ⟨uf', _⟩ | ⟨u2, c2⟩
    · rw [uf] at uf'; cases uf'
    · exact ⟨turn_early ne nf ng u2 (by rw [uf, ue]; rfl) c2 h3, c2⟩
  · rcases (before_iff f g).1 h2 with ⟨uf, ug⟩ | ⟨u2, c2⟩
    · exact ⟨c1, turn_late ne nf ng u1 (by rw [ug, u1, uf]; rfl) c1 h3⟩
    · exact ⟨c1, c2⟩
/-- g stands before e in the list, but a left turn leads from e to g: over the end of the list. -/
theorem wrap_halves {e g : H3} (h : before g e = true) (q : 0 < cross e g) : upB g = true ∧ upB e = false := by
  rcases (before_iff g e).1 h with h | ⟨_, c⟩
  · exact h
  · have := cross_anti e g; omega
theorem next_index {l : List H3} (hs : Sorted l) (nz : AllNZ l) {k j : Nat} (hk : k < l.length) (hj : j < l.length) (turn : 0 < cross l[k] l[j]) (none : ∀ f ∈ l, 0 < cross l[k] f → 0 < cross f l[j] → False) : j = (k + 1) % l.length := by
  have nk := nz _ (List.getElem_mem hk)
  have nj := nz _ (List.getElem_mem hj)
  have hjk : j ≠ k := by
    intro e
    subst e
    rw [cross_self] at turn; omega
  by_cases h1 : k + 1 < l.length
  · rw [Nat.mod_eq_of_lt h1]
    have n1 := nz _ (List.getElem_mem h1)
    have b1 := sorted_get hs hk h1 (by omega)
    rcases Nat.lt_trichotomy j (k + 1) with h | h | h
    · exfalso
      have b2 := sorted_get hs hj hk (by omega)
      obtain ⟨uj, uk⟩ := wrap_halves b2 turn
      rcases (before_iff _ _).1 b1 with ⟨h3, _⟩ | ⟨u1, c1⟩
      · rw [uk] at h3; cases h3
      · exact none _ (List.getElem_mem h1) c1 (turn_late nk n1 nj u1 (by rw [uj, uk]; rfl) c1 turn)
    · exact h
    · exfalso
      have b2 := sorted_get hs h1 hj h
      obtain ⟨c1, c2⟩ := between_up nk n1 nj b1 b2 turn
      exact none _ (List.getElem_mem h1) c1 c2
  · have e : k + 1 = l.length := by omega
    rw [e, Nat.mod_self]
    rcases Nat.eq_zero_or_pos j with h0 | h0
    · exact h0
    · exfalso
      have hz : 0 < l.length := by omega
      have n0 := nz _ (List.getElem_mem hz)
      have b2 := sorted_get hs hj hk (by omega)
      obtain ⟨uj, uk⟩ := wrap_halves b2 turn
      have b3 := sorted_get hs hz hj h0
      rcases (before_iff _ _).1 b3 with ⟨_, h3⟩ | ⟨u1, c1⟩
      · rw [uj] at h3; cases h3
      · exact none _ (List.getElem_mem hz) (turn_early nk n0 nj u1 (by rw [u1, uj, uk]; rfl) c1 turn) c1
/-- A valid region with half planes: its list is the list of its own edges. -/
structure Reg (hs : List H3) (L : List H3) : Prop where
  good : Good L
  edges : pickE L L.length = hs
  full : ¬ Void L
theorem reg_of {hs : List H3} (ok : ∀ g ∈ hs, HOk g) (hm : makeR hs = hs) (hne : hs ≠ []) : Reg hs (sorted4 hs) := by
  have G := good_sorted ok
  have e := makeE_some (L := sorted4 hs) (by show makeR hs ≠ []; rw [hm]; exact hne)
  have e2 : pickE (sorted4 hs) (sorted4 hs).length = hs := by rw [← e]; exact hm
  refine ⟨G, e2, fun v => ?_⟩
  have := void_few G v
  have h2 : makeE (sorted4 hs) = [] := if_pos this
  exact hne (hm.symm.trans h2)
theorem Reg.nz {hs L : List H3} (R : Reg hs L) : AllNZ hs := fun x hx => by
  rw [← R.edges] at hx
  exact R.good.nz x ((pick_mem R.good x).1 hx).1
theorem Reg.corner {hs L : List H3} (R : Reg hs L) {k : Nat} (hk : k < hs.length) : ∃ (hj : (k + 1) % hs.length < hs.length) (v : Pt), 0 < cross hs[k] hs[(k + 1) % hs.length] ∧ On hs[k] v ∧ On hs[(k + 1) % hs.length] v ∧ Inside L v := by
  have hj : (k + 1) % hs.length < hs.length := Nat.mod_lt _ (by omega)
  refine ⟨hj, ?_⟩
  have hs0 : Sorted hs := by rw [← R.edges]; exact pick_sorted R.good
  have mem : ∀ x, x ∈ hs ↔ x ∈ L ∧ Edge L x := fun x => by rw [← R.edges]; exact pick_mem R.good x
  obtain ⟨he, ed⟩ := (mem _).1 (List.getElem_mem hk)
  obtain ⟨g, v, n⟩ := next_exists R.good R.full he ed
  obtain ⟨i, hi, rfl⟩ := List.mem_iff_getElem.1 ((mem g).2 ⟨n.mg, n.eg⟩)
  have e := next_index hs0 R.nz hk hi n.turn fun f hf c1 c2 => next_none R.good n he ((mem f).1 hf).1 c1 c2 ((mem f).1 hf).2
  subst e
  exact ⟨v, n.turn, n.oe, n.og, n.iv⟩
/-- The crossing of two neighbours as the program computes it: in the frame, and in the region. -/
theorem Reg.crossing {hs L : List H3} (R : Reg hs L) {k : Nat} (hk : k < hs.length) (hj : (k + 1) % hs.length < hs.length) : 0 < cross hs[k] hs[(k + 1) % hs.length] ∧ insideI L (crossI hs[k] hs[(k + 1) % hs.length]) = true := by
  obtain ⟨_, v, c, o1, o2, i⟩ := R.corner hk
  refine ⟨c, ?_⟩
  have c0 : cross hs[k] hs[(k + 1) % hs.length] ≠ 0 := by omega
  have nk := R.nz _ (List.getElem_mem hk)
  refine (insideI_cross R.good.framed).2 ⟨c0, ?_⟩
  obtain ⟨p1, p2⟩ := cross_on c0
  have : ptOf (crossI hs[k] hs[(k + 1) % hs.length]) = v := pt_eq nk (by unfold On at p1 o1; rw [p1, o1]) (by rw [p2]; exact ((crossT_on nk c0 o1).1 o2).symm)
  rw [this]; exact i
end Go.Proofs.Ytnenlgaafiifpaa
