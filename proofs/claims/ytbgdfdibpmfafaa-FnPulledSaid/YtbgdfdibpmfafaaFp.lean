/- Plain: a spot lies in a made region exactly if all half planes hold at it; what FnPulled says of a region pulled back. No program. -/
import Derived.Test.YtbgdfdibpmfafaaGk
import Derived.Test.YtbgdfdibpmfafaaEp
import Derived.Test.YtbgdfdibpmfafaaHs
import Derived.Test.YtbgdfdibpmfafaaPq
set_option linter.unusedSimpArgs false
set_option linter.unusedVariables false
set_option linter.unusedSectionVars false
namespace Go.Proofs.Ytbgdfdibpmfafaa
open Go.RowKit

theorem in_side {h s : H3} (hd : 0 < s.c) : In h (ptOf (s.a, s.b, s.c)) ↔ sideI h s ≤ 0 := by
  rw [in_ptOf h (p := (s.a, s.b, s.c)) hd]
  unfold sideI
  simp only
  omega
theorem made_edges {hs : List H3} (ok : ∀ g ∈ hs, HOk g) (hne : makeR hs ≠ []) : (∀ x, x ∈ makeR hs ↔ x ∈ sorted4 hs ∧ Edge (sorted4 hs) x) ∧ ¬ Void (sorted4 hs) ∧ ∃ e ∈ sorted4 hs, Edge (sorted4 hs) e := by
  have G := good_sorted ok
  have eP := makeE_some (L := sorted4 hs) hne
  have eP' : makeR hs = pickE (sorted4 hs) (sorted4 hs).length := eP
  have mP : ∀ x, x ∈ makeR hs ↔ x ∈ sorted4 hs ∧ Edge (sorted4 hs) x := fun x => by rw [eP']; exact pick_mem G x
  have l3 : ¬ (makeR hs).length < 3 := fun h => by
    rw [eP'] at h
    exact hne (if_pos h)
  refine ⟨mP, fun v => ?_, ?_⟩
  · have := void_few G v
    rw [← eP'] at this; exact l3 this
  · obtain ⟨x, hx⟩ := List.exists_mem_of_ne_nil _ hne
    exact ⟨x, (mP x).1 hx⟩
theorem made_inside {hs : List H3} (ok : ∀ g ∈ hs, HOk g) (hne : makeR hs ≠ []) {x : Pt} : (∀ e ∈ makeR hs, In e x) ↔ Inside (hs ++ frameH) x := by
  obtain ⟨mP, nv, ne⟩ := made_edges ok hne
  rw [← inside_sorted ok]
  constructor
  · intro h
    exact edges_inside (good_sorted ok) nv ne (fun e he ee => h e ((mP e).2 ⟨he, ee⟩))
  · intro h g hg
    exact h g ((mP g).1 hg).1
theorem hasL_iff {hs : List H3} {s : H3} : hasL hs s = true ↔ hs ≠ [] ∧ ∀ h ∈ hs, sideI h s ≤ 0 := by
  unfold hasL
  simp only [Bool.and_eq_true, decide_eq_true_eq, List.all_eq_true]
/-- A spot lies in a made region exactly if all half planes hold at it. -/
theorem has_made {hs : List H3} {s : H3} (ok : ∀ g ∈ hs, HOk g) (hne : makeR hs ≠ []) (hd : 0 < s.c) : hasL (makeR hs) s = true ↔ ∀ h ∈ hs ++ frameH, sideI h s ≤ 0 := by
  rw [hasL_iff]
  have e := made_inside ok hne (x := ptOf (s.a, s.b, s.c))
  constructor
  · intro h g hg
    exact (in_side hd).1 (e.1 (fun e' he' => (in_side hd).2 (h.2 e' he')) g hg)
  · intro h
    refine ⟨hne, fun g hg => (in_side hd).1 (e.2 (fun e' he' => (in_side hd).2 (h e' he')) g hg)⟩
theorem in_frame {s : H3} (hf : -1000 * s.c ≤ s.a ∧ s.a ≤ 1000 * s.c ∧ -1000 * s.c ≤ s.b ∧ s.b ≤ 1000 * s.c) : ∀ h ∈ frameH, sideI h s ≤ 0 := by
  intro h hh
  simp only [frameH, List.mem_cons, List.not_mem_nil, or_false] at hh
  rcases hh with rfl | rfl | rfl | rfl <;> (unfold sideI; simp only; omega)
theorem half_scale {a b c : Int} {g : H3} (h : halfOf a b c = (g, true)) : ∃ k : Nat, 0 < k ∧ a = g.a * k ∧ b = g.b * k ∧ c = g.c * k := by
  unfold halfOf at h
  split at h
  · injection h with _ h; cases h
  · rename_i hb
    split at h
    · injection h with h _
      subst h
      obtain ⟨h1, h2, h3⟩ := gcdL3_dvd a b c
      by_cases hz : a = 0 ∧ b = 0 ∧ c = 0
      · obtain ⟨rfl, rfl, rfl⟩ := hz
        exact ⟨1, by omega, by simp, by simp, by simp⟩
      · obtain ⟨k, x, y, z, e, k0, ea, eb, ec, qa, qb, qc⟩ := gcd3_parts hz
        exact ⟨k, k0, by simp only [e, qa]; exact ea, by simp only [e, qb]; exact eb, by simp only [e, qc]; exact ec⟩
    · injection h with _ h; cases h
theorem spot_scale {x y d a b c : Int} (hd : 0 < d) (h : spotOf x y d = ((a, b, c), true)) : ∃ k : Nat, 0 < k ∧ x = a * k ∧ y = b * k ∧ d = c * k := by
  unfold spotOf at h
  split at h
  · injection h with _ h; cases h
  · split at h
    · injection h with h _
      obtain ⟨k, p, q, r, e, k0, ea, eb, ec, qa, qb, qc, _, _⟩ := reduced (x := x) (y := y) hd
      rw [e, qa, qb, qc] at h
      simp only [Prod.mk.injEq] at h
      obtain ⟨rfl, rfl, rfl⟩ := h
      exact ⟨k, k0, ea, eb, ec⟩
    · injection h with _ h; cases h
theorem scale_le {n : Int} {k : Nat} (hk : 0 < k) : n * (k : Int) ≤ 0 ↔ n ≤ 0 := by
  constructor
  · intro h
    rcases Int.lt_or_le 0 n with q | q
    · have := Int.mul_pos q (show (0 : Int) < k by omega); omega
    · exact q
  · intro h
    exact Int.mul_nonpos_of_nonpos_of_nonneg h (by omega)
/-- A half plane pulled back holds at a spot exactly if it holds where the spot is mapped to. -/
theorem pull_side {a b e f q x y d X Y D : Int} {g g' : H3} (hq : 0 < q) (hd : 0 < d) (hp : pullF a b e f q g = (g', true)) (hs : spotOf (a * x + b * y) (e * x + f * y) (q * d) = ((X, Y, D), true)) : sideI g' ⟨x, y, d⟩ ≤ 0 ↔ sideI g ⟨X, Y, D⟩ ≤ 0 := by
  unfold pullF at hp
  obtain ⟨k, k0, ea, eb, ec⟩ := half_scale hp
  obtain ⟨m, m0, fx, fy, fd⟩ := spot_scale (Int.mul_pos hq hd) hs
  rw [← scale_le (n := sideI g' ⟨x, y, d⟩) k0, ← scale_le (n := sideI g ⟨X, Y, D⟩) m0]
  have : sideI g' ⟨x, y, d⟩ * (k : Int) = sideI g ⟨X, Y, D⟩ * (m : Int) := by
    unfold sideI
    simp only
    have l : (g'.a * x + g'.b * y - g'.c * d) * (k : Int) = (g'.a * k) * x + (g'.b * k) * y - (g'.c * k) * d := by grind
    have r : (g.a * X + g.b * Y - g.c * D) * (m : Int) = g.a * (X * m) + g.b * (Y * m) - g.c * (D * m) := by grind
    rw [l, r, ← ea, ← eb, ← ec, ← fx, ← fy, ← fd]
    grind
  rw [this]
/-- What FnPulled says of a spot within the frame. -/
theorem pulled_has {m : List Int} {q x y X Y D : Int} {p b : List H3} (hq : 0 < q) (kp : regionOk p = true) (hpl : pullR m q p = (b, true)) (hx : -40 ≤ x ∧ x ≤ 40) (hy : -40 ≤ y ∧ y ≤ 40) (hs : spotOf (m.getD 0 0 * x + m.getD 1 0 * y) (m.getD 2 0 * x + m.getD 3 0 * y) (q * 1) = ((X, Y, D), true)) (hne : b ≠ []) : hasL b ⟨x, y, 1⟩ = hasL p ⟨X, Y, D⟩ := by
  unfold pullR at hpl
  split at hpl
  · rename_i hc
    unfold movedF at hpl
    split at hpl
    · injection hpl with h1 _; exact absurd h1.symm hne
    · rename_i hpn
      split at hpl
      · rename_i hall
        simp only [List.all_eq_true] at hall
        have okL : ∀ g ∈ p.map (fun g => (pullF (m.getD 0 0) (m.getD 1 0) (m.getD 2 0) (m.getD 3 0) q g).1), HOk g := fun g hg => by
          obtain ⟨g0, hg0, rfl⟩ := List.mem_map.1 hg
          exact halfOf_ok (v := _) rfl (hall g0 hg0)
        have hb : b = makeR (p.map (fun g => (pullF (m.getD 0 0) (m.getD 1 0) (m.getD 2 0) (m.getD 3 0) q g).1)) := by
          rw [meetR_makeR okL] at hpl
          split at hpl
          · injection hpl with _ h2; cases h2
          · injection hpl with h1 _; exact h1.symm
        have hs3 : ∀ g ∈ p, sideI (pullF (m.getD 0 0) (m.getD 1 0) (m.getD 2 0) (m.getD 3 0) q g).1 ⟨x, y, 1⟩ ≤ 0 ↔ sideI g ⟨X, Y, D⟩ ≤ 0 := fun g hg => pull_side hq (by omega) (Prod.ext rfl (hall g hg)) hs
        rw [Bool.eq_iff_iff, hb, has_made okL (by rw [← hb]; exact hne) (by simp), hasL_iff]
        constructor
        · intro h
          refine ⟨hpn, fun g hg => (hs3 g hg).1 (h _ (List.mem_append_left _ (List.mem_map.2 ⟨g, hg, rfl⟩)))⟩
        · intro h g hg
          rcases List.mem_append.1 hg with h1 | h1
          · obtain ⟨g0, hg0, rfl⟩ := List.mem_map.1 h1
            exact (hs3 g0 hg0).2 (h.2 g0 hg0)
          · exact in_frame (s := ⟨x, y, 1⟩) ⟨by simp; omega, by simp; omega, by simp; omega, by simp; omega⟩ g h1
      · injection hpl with _ h2; cases h2
  · injection hpl with _ h2; cases h2
theorem pulled_ok {m : List Int} {q : Int} {p b : List H3} (hpl : pullR m q p = (b, true)) : regionOk b = true := by
  unfold pullR at hpl
  split at hpl
  · exact movedF_ok (fun g _ hg => halfOf_ok (v := _) rfl hg) hpl
  · injection hpl with _ h2; cases h2
/-- A region made of few half planes is valid. -/
theorem made_ok {L : List H3} (ok : ∀ g ∈ L, HOk g) (hl : L.length ≤ 30) : regionOk (makeR L) = true := by
  have h4 : (makeR L).length ≤ 40 := by
    have h1 := sortH_length (L ++ frameH)
    have h2 := pickE_len (sorted4 L) (sorted4 L).length
    have h3 : (sorted4 L).length ≤ 34 := by
      have : (L ++ frameH).length = L.length + 4 := by simp [frameH]
      have : (sorted4 L).length ≤ (L ++ frameH).length := h1
      omega
    unfold makeR makeE
    split
    · simp
    · omega
  refine meetR_ok ok (hs := L) (out := makeR L) ?_
  rw [meetR_makeR ok, if_neg (by omega)]
theorem map_fine {a b e f q x y : Int} (ha : -5 ≤ a ∧ a ≤ 5) (hb : -5 ≤ b ∧ b ≤ 5) (he : -5 ≤ e ∧ e ≤ 5) (hf : -5 ≤ f ∧ f ≤ 5) (hq : 1 ≤ q ∧ q ≤ 5) (hx : -40 ≤ x ∧ x ≤ 40) (hy : -40 ≤ y ∧ y ≤ 40) : ∃ X Y D : Int, spotOf (a * x + b * y) (e * x + f * y) (q * 1) = ((X, Y, D), true) ∧ spotOk X Y D = true := by
  have k1 := mul_bd (A := 5) (B := 40) ha hx
  have k2 := mul_bd (A := 5) (B := 40) hb hy
  have k3 := mul_bd (A := 5) (B := 40) he hx
  have k4 := mul_bd (A := 5) (B := 40) hf hy
  obtain ⟨g, X, Y, D, _, _, h, _, _, k⟩ := spotOf_frame (p := (a * x + b * y, e * x + f * y, q * 1)) (by simp only; omega) (by simp only; omega) (by refine ⟨?_, ?_, ?_, ?_⟩ <;> simp only <;> omega)
  exact ⟨X, Y, D, h, k⟩
end Go.Proofs.Ytbgdfdibpmfafaa
