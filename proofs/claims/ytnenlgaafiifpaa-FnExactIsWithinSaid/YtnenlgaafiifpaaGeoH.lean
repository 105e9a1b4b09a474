/- Insertion into a sorted list, by the index at which it stops, no program. No condition. -/
import Derived.Test.YtnenlgaafiifpaaGeoG
namespace Go.Proofs.Ytnenlgaafiifpaa

theorem insH_skip (h : H3) : ∀ (o : List H3) (j : Nat), j ≤ o.length → (∀ i (hi : i < o.length), i < j → before o[i] h = true) → insH o h = o.take j ++ insH (o.drop j) h := by
  intro o
  induction o with
  | nil => intro j hj _; simp
  | cons g r ih =>
    intro j hj hb
    cases j with
    | zero => simp
    | succ j =>
      have h0 := hb 0 (by simp) (by omega)
      simp only [List.getElem_cons_zero] at h0
      rw [List.take_succ_cons, List.drop_succ_cons, List.cons_append, ← ih j (by simpa using hj) (fun i hi hij => hb (i + 1) (by simpa using hi) (by omega))]
      show (if before g h = true then _ else _) = _
      rw [if_pos h0]
theorem insH_end (h : H3) (o : List H3) (hb : ∀ i (hi : i < o.length), i < o.length → before o[i] h = true) : insH o h = o.take o.length ++ h :: o.drop o.length := by
  rw [insH_skip h o o.length (Nat.le_refl _) hb, List.drop_length]; rfl
theorem insH_new (h : H3) (o : List H3) (j : Nat) (hj : j < o.length) (hb : ∀ i (hi : i < o.length), i < j → before o[i] h = true) (n1 : before o[j] h = false) (n2 : sameDir o[j] h = false) : insH o h = o.take j ++ h :: o.drop j := by
  rw [insH_skip h o j (by omega) hb, List.drop_eq_getElem_cons hj]
  congr 1
  unfold insH; rw [n1, n2]; rfl
theorem insH_set (h : H3) (o : List H3) (j : Nat) (hj : j < o.length) (hb : ∀ i (hi : i < o.length), i < j → before o[i] h = true) (n1 : before o[j] h = false) (n2 : sameDir o[j] h = true) : insH o h = o.set j (tighter o[j] h) := by
  rw [insH_skip h o j (by omega) hb, List.drop_eq_getElem_cons hj, List.set_eq_take_append_cons_drop, if_pos hj]
  congr 1
  unfold insH; rw [n1, n2]; rfl
theorem sortH_succ (l : List H3) (k : Nat) (hk : k < l.length) : sortH (l.take (k + 1)) = insH (sortH (l.take k)) l[k] := by
  unfold sortH; rw [List.take_succ_eq_append_getElem hk, List.foldl_append]; rfl
theorem sortH_length (l : List H3) : (sortH l).length ≤ l.length := by
  have ins : ∀ (o : List H3) (h : H3), (insH o h).length ≤ o.length + 1 := by
    intro o h
    induction o with
    | nil => simp [insH]
    | cons g r ih => unfold insH; split; simp only [List.length_cons]; omega; split <;> simp
  have : ∀ (l o : List H3), (l.foldl insH o).length ≤ l.length + o.length := by
    intro l
    induction l with
    | nil => intro o; simp
    | cons h r ih => intro o; have := ih (insH o h); have := ins o h; simp only [List.foldl_cons, List.length_cons]; omega
  have := this l []; simpa [sortH] using this
end Go.Proofs.Ytnenlgaafiifpaa
