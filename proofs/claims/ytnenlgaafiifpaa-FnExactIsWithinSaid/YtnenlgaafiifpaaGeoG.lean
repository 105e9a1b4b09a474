/- The scans of a list but for one index, step by step, no program. No condition. -/
import Derived.Test.YtnenlgaafiifpaaGeoF
namespace Go.Proofs.Ytnenlgaafiifpaa

theorem take_erase_same {α : Type} (L : List α) (k : Nat) : (L.take (k + 1)).eraseIdx k = (L.take k).eraseIdx k := by
  by_cases hk : k < L.length
  · have e0 : (L.take k).length = k := by simp; omega
    rw [List.take_succ_eq_append_getElem hk, List.eraseIdx_append_of_length_le (by omega), e0, Nat.sub_self, List.eraseIdx_of_length_le (l := L.take k) (by omega)]
    simp
  · rw [List.take_of_length_le (by omega), List.take_of_length_le (by omega)]
theorem take_erase_succ {α : Type} (L : List α) (k j : Nat) (hj : j < L.length) (hne : j ≠ k) : (L.take (j + 1)).eraseIdx k = (L.take j).eraseIdx k ++ [L[j]] := by
  rw [List.take_succ_eq_append_getElem hj]
  by_cases h : k < j
  · rw [List.eraseIdx_append_of_lt_length (by simp; omega)]
  · rw [List.eraseIdx_append_of_length_le (by simp; omega), List.eraseIdx_of_length_le (l := List.take j L) (by simp; omega)]
    congr 1
    rw [List.eraseIdx_of_length_le (by simp; omega)]

theorem scanS_snoc (h : H3) (l : List H3) (g : H3) : scanS h (l ++ [g]) = stepS h (scanS h l) g := by
  unfold scanS; rw [List.foldl_append]; rfl
theorem scanS_succ (h : H3) (L : List H3) (k j : Nat) (hj : j < L.length) (hne : j ≠ k) : scanS h ((L.take (j + 1)).eraseIdx k) = stepS h (scanS h ((L.take j).eraseIdx k)) L[j] := by
  rw [take_erase_succ L k j hj hne, scanS_snoc]
theorem scanS_none (h : H3) (l m : List H3) (e : scanS h l = none) : scanS h (l ++ m) = none := by
  unfold scanS at *
  rw [List.foldl_append, e]
  induction m with
  | nil => rfl
  | cons g r ih => exact ih
theorem scanS_none_all (h : H3) (L : List H3) (k j : Nat) (hj : j < L.length) (hne : j ≠ k) (e : stepS h (scanS h ((L.take j).eraseIdx k)) L[j] = none) : scanS h (L.eraseIdx k) = none := by
  rw [← scanS_succ h L k j hj hne] at e
  by_cases hk : k < j + 1
  · have : L.eraseIdx k = (L.take (j + 1)).eraseIdx k ++ L.drop (j + 1) := by
      conv => lhs; rw [← List.take_append_drop (j + 1) L]
      rw [List.eraseIdx_append_of_lt_length (by simp; omega)]
    rw [this]; exact scanS_none _ _ _ e
  · have h1 : (L.take (j + 1)).eraseIdx k = L.take (j + 1) := List.eraseIdx_of_length_le (by simp; omega)
    have : L.eraseIdx k = L.take (j + 1) ++ (L.drop (j + 1)).eraseIdx (k - (j + 1)) := by
      conv => lhs; rw [← List.take_append_drop (j + 1) L]
      rw [List.eraseIdx_append_of_length_le (by simp; omega)]
      congr 2; simp; omega
    rw [this]; rw [h1] at e; exact scanS_none _ _ _ e

def optM (b : Bool) (n d : Int) : Option Fr := if b then some (n, d) else none
theorem markI_bd {h g : H3} (kh : HOk h) (kg : HOk g) (k : cross h g ≠ 0) : -1000000000000000000 ≤ (markI h g).1 ∧ (markI h g).1 ≤ 1000000000000000000 ∧ 0 < (markI h g).2 ∧ (markI h g).2 ≤ 5000000000 := by
  have p1 := mul_bd kh.bc kg.bb
  have p2 := mul_bd kg.bc kh.bb
  have p3 := mul_bd kh.ba kg.bc
  have p4 := mul_bd kg.ba kh.bc
  have hx : -10000000000000 ≤ (crossI h g).1 ∧ (crossI h g).1 ≤ 10000000000000 := by unfold crossI; split <;> simp only <;> omega
  have hy : -10000000000000 ≤ (crossI h g).2.1 ∧ (crossI h g).2.1 ≤ 10000000000000 := by unfold crossI; split <;> simp only <;> omega
  have q1 := mul_bd kh.ba hy
  have q2 := mul_bd kh.bb hx
  have := crossI_pos k
  have := crossI_bd kh kg
  unfold markI; simp only; omega
theorem mark_parts {h g : H3} (kh : HOk h) (kg : HOk g) : (-10000000000000 ≤ (crossI h g).1 ∧ (crossI h g).1 ≤ 10000000000000) ∧ (-10000000000000 ≤ (crossI h g).2.1 ∧ (crossI h g).2.1 ≤ 10000000000000) ∧
    (-500000000000000000 ≤ h.a * (crossI h g).2.1 ∧ h.a * (crossI h g).2.1 ≤ 500000000000000000) ∧ (-500000000000000000 ≤ h.b * (crossI h g).1 ∧ h.b * (crossI h g).1 ≤ 500000000000000000) := by
  have p1 := mul_bd kh.bc kg.bb
  have p2 := mul_bd kg.bc kh.bb
  have p3 := mul_bd kh.ba kg.bc
  have p4 := mul_bd kg.ba kh.bc
  have hx : -10000000000000 ≤ (crossI h g).1 ∧ (crossI h g).1 ≤ 10000000000000 := by unfold crossI; split <;> simp only <;> omega
  have hy : -10000000000000 ≤ (crossI h g).2.1 ∧ (crossI h g).2.1 ≤ 10000000000000 := by unfold crossI; split <;> simp only <;> omega
  have q1 := mul_bd kh.ba hy
  have q2 := mul_bd kh.bb hx
  refine ⟨hx, hy, by omega, by omega⟩

theorem step_zero {h g : H3} (f t : Option Fr) (k : cross h g = 0) : stepS h (some (f, t)) g = if leaves g h then some (f, t) else none := by simp [stepS, k]
theorem step_pos {h g : H3} (f t : Option Fr) (k : 0 < cross h g) : stepS h (some (f, t)) g = some (f, upd false t (markI h g)) := by
  unfold stepS; simp only; rw [if_neg (by omega), if_pos k]
theorem step_neg {h g : H3} (f t : Option Fr) (k : cross h g < 0) : stepS h (some (f, t)) g = some (upd true f (markI h g), t) := by
  unfold stepS; simp only; rw [if_neg (by omega), if_neg (by omega)]
theorem upd_first (b : Bool) (m : Fr) (n d : Int) : upd b (optM false n d) m = optM true m.1 m.2 := rfl
theorem upd_to (m : Fr) (n d : Int) : upd false (optM true n d) m = if 0 ≤ cmpF m.1 m.2 n d then optM true n d else optM true m.1 m.2 := by
  simp [upd, optM]
theorem upd_from (m : Fr) (n d : Int) : upd true (optM true n d) m = if cmpF m.1 m.2 n d ≤ 0 then optM true n d else optM true m.1 m.2 := by
  simp [upd, optM]
theorem edgeI_of_scan {L : List H3} {k : Nat} {h : H3} {fb tb : Bool} {fn fd tn td : Int} (e : scanS h (L.eraseIdx k) = some (optM fb fn fd, optM tb tn td)) : edgeI L k h = (fb && tb && decide (cmpF fn fd tn td < 0), false) := by
  unfold edgeI; rw [e]; cases fb <;> cases tb <;> rfl
theorem edgeI_of_none {L : List H3} {k : Nat} {h : H3} (e : scanS h (L.eraseIdx k) = none) : edgeI L k h = (false, true) := by
  unfold edgeI; rw [e]
end Go.Proofs.Ytnenlgaafiifpaa
