/- Plain: the edges of a meet are edges of the regions that meet; so they are few. No program. -/
import Derived.Test.YtnenlgaafiifpaaGeoH
namespace Go.Proofs.Ytnenlgaafiifpaa

theorem inside_sorted {l : List H3} (ok : ∀ h ∈ l, HOk h) {p : Pt} : Inside (sorted4 l) p ↔ Inside (l ++ frameH) p := by
  have ok2 : ∀ h ∈ l ++ frameH, HOk h := fun h hh => by
    rcases List.mem_append.1 hh with h1 | h1
    · exact ok h h1
    · exact frameH_ok h h1
  have nz : AllNZ (l ++ frameH) := fun x hx => (ok2 x hx).nz
  constructor
  · intro h x hx
    obtain ⟨y, hy, t⟩ := sortH_cover nz hx
    exact Tle.in ((ok2 y (sortH_mem nz hy)).nz) (nz x hx) t (h y hy)
  · intro h x hx
    exact h x (sortH_mem nz hx)
theorem edge_tight {L : List H3} {y g : H3} (hy : y ∈ L) (ky : HOk y) (kg : HOk g) (t : Tle y g) {a : Pt} (hi : Inside L a) (og : On g a) : y = g := by
  refine Tle.antisymm ky.nz kg.nz ky.prim kg.prim t ⟨sameDir_symm t.1, ?_⟩
  have hv := hi y hy
  obtain ⟨ea, eb⟩ := prop_of_sameDir ky.nz kg.nz t.1
  have sy := size_pos ky.nz
  have sg := size_pos kg.nz
  have h1 : val y a * (sizeH g : Rat) = val g a * (sizeH y : Rat) := by
    have ea' : (y.a : Rat) * sizeH g = (g.a : Rat) * sizeH y := by exact_mod_cast ea
    have eb' : (y.b : Rat) * sizeH g = (g.b : Rat) * sizeH y := by exact_mod_cast eb
    unfold val
    grind
  have h2 : (g.c : Rat) * sizeH y ≤ (y.c : Rat) * sizeH g := by
    have h3 : val y a * (sizeH g : Rat) ≤ (y.c : Rat) * sizeH g := Rat.mul_le_mul_of_nonneg_right hv (by exact_mod_cast (Int.le_of_lt sg))
    rw [h1, show val g a = (g.c : Rat) from og] at h3
    exact h3
  exact_mod_cast h2
theorem nodup_sub {α : Type} [DecidableEq α] : ∀ {l m : List α}, l.Nodup → (∀ x ∈ l, x ∈ m) → l.length ≤ m.length
  | [], m, _, _ => Nat.zero_le _
  | x :: l, m, hn, h => by
    have hx := h x List.mem_cons_self
    have hn' := List.nodup_cons.1 hn
    have : l.length ≤ (m.erase x).length := nodup_sub hn'.2 fun y hy => by
      have hyx : y ≠ x := fun e => hn'.1 (e ▸ hy)
      exact (List.mem_erase_of_ne hyx).2 (h y (List.mem_cons_of_mem _ hy))
    have hl := List.length_erase_of_mem hx
    have := List.length_pos_of_mem hx
    simp only [List.length_cons]
    omega
theorem makeE_some {L : List H3} (h : makeE L ≠ []) : makeE L = pickE L L.length := by
  unfold makeE at *
  split
  · rename_i h3; rw [if_pos h3] at h; exact absurd rfl h
  · rfl
theorem meet_edge {p rest : List H3} (okp : ∀ g ∈ p, HOk g) (okr : ∀ g ∈ rest, HOk g) (hp : makeR p = p) (hne : p ≠ []) {g : H3} (hg : g ∈ makeR (p ++ rest)) : g ∈ p ∨ g ∈ rest := by
  have okA : ∀ g ∈ p ++ rest, HOk g := fun x hx => by
    rcases List.mem_append.1 hx with h | h
    · exact okp x h
    · exact okr x h
  have GA := good_sorted okA
  have Gp := good_sorted okp
  have hg' : g ∈ pickE (sorted4 (p ++ rest)) (sorted4 (p ++ rest)).length := by
    unfold makeR makeE at hg
    split at hg
    · cases hg
    · exact hg
  obtain ⟨hgL, a, b, oa, ob, hab, ia, ib⟩ := (pick_mem GA g).1 hg'
  have kg := GA.ok g hgL
  have nzA : AllNZ ((p ++ rest) ++ frameH) := fun x hx => by
    rcases List.mem_append.1 hx with h | h
    · exact (okA x h).nz
    · exact (frameH_ok x h).nz
  have hm := sortH_mem nzA hgL
  rcases List.mem_append.1 hm with h | hf
  · exact List.mem_append.1 h
  · left
    have fp : ∀ {c : Pt}, Inside (sorted4 (p ++ rest)) c → Inside (sorted4 p) c := fun {c} hc => (inside_sorted okp).2 fun x hx => (inside_sorted okA).1 hc x (by
      rcases List.mem_append.1 hx with h | h
      · exact List.mem_append_left _ (List.mem_append_left _ h)
      · exact List.mem_append_right _ h)
    obtain ⟨y, hy, t⟩ := Gp.frame g hf
    have e := edge_tight hy (Gp.ok y hy) kg t (fp ia) oa
    subst e
    have : y ∈ pickE (sorted4 p) (sorted4 p).length := (pick_mem Gp y).2 ⟨hy, a, b, oa, ob, hab, fp ia, fp ib⟩
    rw [← makeE_some (by show makeR p ≠ []; rw [hp]; exact hne)] at this
    rw [← hp]
    exact this
theorem makeR_nodup {l : List H3} (ok : ∀ g ∈ l, HOk g) : (makeR l).Nodup := by
  unfold makeR makeE
  split
  · exact List.nodup_nil
  · refine (pick_sorted (good_sorted ok)).imp fun {x y} h e => ?_
    subst e
    rw [before_irrefl] at h; cases h
theorem meet_few {p rest : List H3} (okp : ∀ g ∈ p, HOk g) (okr : ∀ g ∈ rest, HOk g) (hp : makeR p = p) (hne : p ≠ []) : (makeR (p ++ rest)).length ≤ p.length + rest.length := by
  rw [← List.length_append]
  refine nodup_sub (makeR_nodup fun g hg => ?_) fun g hg => List.mem_append.2 (meet_edge okp okr hp hne hg)
  rcases List.mem_append.1 hg with h | h
  · exact okp g h
  · exact okr g h
end Go.Proofs.Ytnenlgaafiifpaa
