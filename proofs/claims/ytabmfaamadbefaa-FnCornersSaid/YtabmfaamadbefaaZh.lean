/- Plain: whole spots of a region, counted by columns. No program. -/
import Derived.Test.YtabmfaamadbefaaZe
import Derived.Test.YtabmfaamadbefaaIq
set_option linter.unusedSimpArgs false
set_option linter.unusedVariables false
set_option linter.unusedSectionVars false
namespace Go.Proofs.Ytabmfaamadbefaa
open Go.RowKit

theorem col_fold (x y : Int) : ∀ (hs : List H3) (s : Int × Int), hs.any (deadH x) = false → ((hs.foldl (colStep x) s).1 ≤ y ∧ y ≤ (hs.foldl (colStep x) s).2 ↔ (s.1 ≤ y ∧ y ≤ s.2) ∧ ∀ h ∈ hs, h.a * x + h.b * y ≤ h.c)
  | [], s, _ => ⟨fun h => ⟨h, fun g hg => by cases hg⟩, fun h => h.1⟩
  | g :: hs, s, hd => by
    simp only [List.any_cons, Bool.or_eq_false_iff] at hd
    rw [List.foldl_cons, col_fold x y hs (colStep x s g) hd.2]
    have one : ((colStep x s g).1 ≤ y ∧ y ≤ (colStep x s g).2) ↔ (s.1 ≤ y ∧ y ≤ s.2) ∧ g.a * x + g.b * y ≤ g.c := by
      unfold colStep
      by_cases p : 0 < g.b
      · rw [if_pos p]
        have e : y ≤ (g.c - g.a * x) / g.b ↔ y * g.b ≤ g.c - g.a * x := Int.le_ediv_iff_mul_le p
        have c : y * g.b = g.b * y := Int.mul_comm _ _
        rw [c] at e
        simp only
        generalize (g.c - g.a * x) / g.b = q at *
        generalize g.b * y = m at *
        split <;> omega
      · rw [if_neg p]
        by_cases n : g.b < 0
        · rw [if_pos n]
          have e : -y ≤ (g.c - g.a * x) / (-g.b) ↔ -y * (-g.b) ≤ g.c - g.a * x := Int.le_ediv_iff_mul_le (by omega)
          have c : -y * (-g.b) = g.b * y := by rw [Int.neg_mul_neg, Int.mul_comm]
          rw [c] at e
          simp only
          generalize (g.c - g.a * x) / (-g.b) = q at *
          generalize g.b * y = m at *
          split <;> omega
        · rw [if_neg n]
          have hz : g.b = 0 := by omega
          have hn : ¬ g.c < g.a * x := by
            have := hd.1
            unfold deadH at this
            simpa [hz] using this
          rw [if_neg hn, hz, Int.zero_mul]
          omega
    rw [one]
    constructor
    · rintro ⟨⟨h1, h2⟩, h3⟩
      refine ⟨h1, fun h hh => ?_⟩
      rcases List.mem_cons.1 hh with rfl | hh
      · exact h2
      · exact h3 h hh
    · rintro ⟨h1, h2⟩
      exact ⟨⟨h1, h2 g List.mem_cons_self⟩, fun h hh => h2 h (List.mem_cons_of_mem _ hh)⟩
/-- A column holds exactly the whole places of the region. -/
theorem col_iff {hs : List H3} (x y : Int) : ((colI x hs).1 ≤ y ∧ y ≤ (colI x hs).2) ↔ (-1000 ≤ y ∧ y ≤ 1000) ∧ ∀ h ∈ hs, h.a * x + h.b * y ≤ h.c := by
  unfold colI
  split
  · rename_i hd
    constructor
    · intro h
      have h1 : (0 : Int) ≤ y := h.1
      have h2 : y ≤ (-1 : Int) := h.2
      omega
    · rintro ⟨_, h⟩
      obtain ⟨g, hg, hgd⟩ := List.any_eq_true.1 hd
      have := h g hg
      unfold deadH at hgd
      simp only [Bool.and_eq_true, decide_eq_true_eq] at hgd
      rw [hgd.1, Int.zero_mul] at this
      omega
  · rename_i hd
    exact col_fold x y hs (-1000, 1000) (by simpa using hd)
theorem col_set {hs : List H3} (hne : hs ≠ []) (x y : Int) : ((colI x hs).1 ≤ y ∧ y ≤ (colI x hs).2) ↔ (-1000 ≤ y ∧ y ≤ 1000) ∧ setR hs ⟨(x : Rat), (y : Rat)⟩ := by
  rw [col_iff, ← ptOf_whole]
  have e := has_set (p := hs) (s := ⟨x, y, 1⟩) (by simp)
  simp only at e
  rw [← e, hasL_iff]
  have : ∀ h : H3, sideI h ⟨x, y, 1⟩ ≤ 0 ↔ h.a * x + h.b * y ≤ h.c := fun h => by unfold sideI; simp only; omega
  simp only [this]
  exact ⟨fun h => ⟨h.1, hne, h.2⟩, fun h => ⟨h.1, h.2.2⟩⟩
def cntC (hs : List H3) (x : Int) : Int := max ((colI x hs).2 - (colI x hs).1 + 1) 0
def sumI (f : Int → Int) (a : Int) : Nat → Int
  | 0 => 0
  | n + 1 => sumI f a n + f (a + n)
def wholeN (hs : List H3) : Int := if hs ≠ [] ∧ regionOk hs = true then sumI (cntC hs) (-1000) 2001 else 0
theorem sumI_succ (f : Int → Int) (a : Int) (n : Nat) : sumI f a (n + 1) = sumI f a n + f (a + n) := rfl
theorem sumI_congr {f g : Int → Int} {a : Int} : ∀ {n : Nat}, (∀ i : Nat, i < n → f (a + i) = g (a + i)) → sumI f a n = sumI g a n
  | 0, _ => rfl
  | n + 1, h => by
    unfold sumI
    rw [sumI_congr (fun i hi => h i (by omega)), h n (by omega)]
theorem sumI_le {f g : Int → Int} {a : Int} : ∀ {n : Nat}, (∀ i : Nat, i < n → f (a + i) ≤ g (a + i)) → sumI f a n ≤ sumI g a n
  | 0, _ => Int.le_refl _
  | n + 1, h => by
    unfold sumI
    have h1 := sumI_le (n := n) (fun i hi => h i (by omega))
    have h2 := h n (by omega)
    omega
theorem sumI_zero {f : Int → Int} {a : Int} : ∀ {n : Nat}, (∀ i : Nat, i < n → f (a + i) = 0) → sumI f a n = 0
  | 0, _ => rfl
  | n + 1, h => by
    unfold sumI
    rw [sumI_zero (fun i hi => h i (by omega)), h n (by omega)]
    rfl
theorem sumI_split (f : Int → Int) (a : Int) (m : Nat) : ∀ n : Nat, sumI f a (m + n) = sumI f a m + sumI f (a + m) n
  | 0 => by simp [sumI]
  | n + 1 => by
    rw [show m + (n + 1) = (m + n) + 1 by omega, sumI_succ, sumI_succ, sumI_split f a m n, show a + ((m + n : Nat) : Int) = a + m + n by push_cast; omega]
    omega
theorem sumI_shift (f : Int → Int) (a d : Int) : ∀ n : Nat, sumI (fun x => f (x + d)) a n = sumI f (a + d) n
  | 0 => rfl
  | n + 1 => by
    unfold sumI
    rw [sumI_shift f a d n, show a + (n : Int) + d = a + d + n by omega]
theorem sumI_first (f : Int → Int) (a : Int) (n : Nat) : sumI f a (n + 1) = f a + sumI f (a + 1) n := by
  have := sumI_split f a 1 n
  rw [show n + 1 = 1 + n by omega, this]
  simp [sumI]
theorem sumI_rev (f : Int → Int) : ∀ (n : Nat) (a : Int), sumI (fun x => f (-x)) a n = sumI f (-(a + n - 1)) n
  | 0, a => rfl
  | n + 1, a => by
    rw [sumI_first f]
    conv => lhs; unfold sumI
    rw [sumI_rev f n a]
    have e1 : -(a + ((n + 1 : Nat) : Int) - 1) = -(a + n) := by push_cast; omega
    have e2 : -(a + n) + 1 = -(a + (n : Int) - 1) := by omega
    rw [e1, e2]
    omega
/-- The sum over a window, where the rest is nothing. -/
theorem sumI_window {f : Int → Int} {a b : Int} {n m : Nat} (h1 : a ≤ b) (h2 : b + m ≤ a + n) (h0 : ∀ x, a ≤ x → x < a + n → (x < b ∨ b + m ≤ x) → f x = 0) : sumI f a n = sumI f b m := by
  obtain ⟨k, hk⟩ := Int.eq_ofNat_of_zero_le (show 0 ≤ b - a by omega)
  obtain ⟨l, hl⟩ := Int.eq_ofNat_of_zero_le (show 0 ≤ (a + n) - (b + m) by omega)
  have hn : n = k + (m + l) := by omega
  have hb : b = a + k := by omega
  rw [hn, sumI_split, sumI_split, sumI_zero (n := k) (fun i hi => h0 _ (by omega) (by omega) (.inl (by omega))), ← hb, sumI_zero (n := l) (fun i hi => h0 _ (by omega) (by omega) (.inr (by omega)))]
  omega
theorem cnt_le {l t l' t' : Int} (h : ∀ y, l ≤ y ∧ y ≤ t → l' ≤ y ∧ y ≤ t') : max (t - l + 1) 0 ≤ max (t' - l' + 1) 0 := by
  by_cases c : l ≤ t
  · have h1 := h l (by omega)
    have h2 := h t (by omega)
    omega
  · omega
theorem cnt_move {l t l' t' d : Int} (h : ∀ y, (l ≤ y ∧ y ≤ t) ↔ (l' ≤ y + d ∧ y + d ≤ t')) : max (t - l + 1) 0 = max (t' - l' + 1) 0 := by
  have h1 := h l
  have h2 := h t
  have h3 := h (l' - d)
  have h4 := h (t' - d)
  by_cases c : l ≤ t
  · have a1 := h1.1 (by omega)
    have a2 := h2.1 (by omega)
    have a3 := h3.2 (by omega)
    have a4 := h4.2 (by omega)
    omega
  · by_cases c' : l' ≤ t'
    · have a3 := h3.2 (by omega)
      omega
    · omega
theorem cnt_turn {l t l' t' : Int} (h : ∀ y, (l ≤ y ∧ y ≤ t) ↔ (l' ≤ -y ∧ -y ≤ t')) : max (t - l + 1) 0 = max (t' - l' + 1) 0 := by
  have h1 := h l
  have h2 := h t
  have h3 := h (-l')
  have h4 := h (-t')
  by_cases c : l ≤ t
  · have a1 := h1.1 (by omega)
    have a2 := h2.1 (by omega)
    have a3 := h3.2 (by omega)
    have a4 := h4.2 (by omega)
    omega
  · by_cases c' : l' ≤ t'
    · have a3 := h3.2 (by omega)
      omega
    · omega
theorem cntC_zero {hs : List H3} {x : Int} (h : ∀ y, ¬ ((colI x hs).1 ≤ y ∧ y ≤ (colI x hs).2)) : cntC hs x = 0 := by
  have := h (colI x hs).1
  unfold cntC
  omega
theorem cntC_bd {hs : List H3} (x : Int) : 0 ≤ cntC hs x ∧ cntC hs x ≤ 2001 := by
  unfold cntC
  by_cases c : (colI x hs).1 ≤ (colI x hs).2
  · have h1 := ((col_iff (hs := hs) x (colI x hs).1).1 (by omega)).1
    have h2 := ((col_iff (hs := hs) x (colI x hs).2).1 (by omega)).1
    omega
  · omega
theorem sumI_bd {hs : List H3} (a : Int) : ∀ n : Nat, 0 ≤ sumI (cntC hs) a n ∧ sumI (cntC hs) a n ≤ 2001 * n
  | 0 => by simp [sumI]
  | n + 1 => by
    have h1 := sumI_bd (hs := hs) a n
    have h2 := cntC_bd (hs := hs) (a + n)
    unfold sumI
    push_cast
    omega
/-- The columns beside a region's points hold nothing. -/
theorem cnt_out {hs : List H3} (hne : hs ≠ []) {A B : Int} (hb : ∀ x, setR hs x → (A : Rat) ≤ x.x ∧ x.x ≤ (B : Rat)) {x : Int} (hx : x < A ∨ B < x) : cntC hs x = 0 :=
  cntC_zero fun y hy => by
    obtain ⟨_, hs'⟩ := (col_set hne x y).1 hy
    obtain ⟨h1, h2⟩ := hb _ hs'
    have h1 := cast_le h1
    have h2 := cast_le h2
    omega
theorem whole_window {hs : List H3} (k : regionOk hs = true) (hne : hs ≠ []) {A : Int} {N : Nat} (hA : -1000 ≤ A) (hN : A + N ≤ 1001) (hb : ∀ x, setR hs x → (A : Rat) ≤ x.x ∧ x.x ≤ ((A + N - 1 : Int) : Rat)) : wholeN hs = sumI (cntC hs) A N := by
  unfold wholeN
  rw [if_pos ⟨hne, k⟩]
  exact sumI_window hA (by omega) fun x h1 h2 h3 => cnt_out hne hb (by omega)
theorem whole_le {m q : List H3} (km : regionOk m = true) (kq : regionOk q = true) (h : ∀ x, setR m x → setR q x) : wholeN m ≤ wholeN q := by
  unfold wholeN
  by_cases hm : m = []
  · rw [if_neg (fun h => h.1 hm)]
    split
    · exact (sumI_bd _ _).1
    · exact Int.le_refl _
  · have hq : q ≠ [] := by
      obtain ⟨x, hx⟩ := (set_fat km hm).some
      exact (h x hx).1
    rw [if_pos ⟨hm, km⟩, if_pos ⟨hq, kq⟩]
    refine sumI_le fun i hi => cnt_le fun y hy => ?_
    rw [col_set hm] at hy
    rw [col_set hq]
    exact ⟨hy.1, h _ hy.2⟩
theorem sumI_pos {f : Int → Int} {a x : Int} (h0 : ∀ y, 0 ≤ f y) : ∀ {n : Nat}, a ≤ x → x < a + n → 0 < f x → 0 < sumI f a n
  | 0, h1, h2, _ => by simp at h2; omega
  | n + 1, h1, h2, h3 => by
    unfold sumI
    have hn : ∀ m : Nat, 0 ≤ sumI f a m := fun m => by
      induction m with
      | zero => exact Int.le_refl _
      | succ m ih => unfold sumI; have := h0 (a + m); omega
    by_cases e : x = a + n
    · rw [← e]; have := hn n; omega
    · have := sumI_pos h0 (n := n) h1 (by omega) h3
      have := h0 (a + n)
      omega
theorem whole_pos {hs : List H3} (k : regionOk hs = true) {X Y : Int} (hX : -1000 ≤ X ∧ X ≤ 1000) (hY : -1000 ≤ Y ∧ Y ≤ 1000) (h : hasL hs ⟨X, Y, 1⟩ = true) : 0 < wholeN hs := by
  have hne := (hasL_iff.1 h).1
  unfold wholeN
  rw [if_pos ⟨hne, k⟩]
  refine sumI_pos (x := X) (fun y => (cntC_bd y).1) hX.1 (by omega) ?_
  have : (colI X hs).1 ≤ Y ∧ Y ≤ (colI X hs).2 := (col_iff X Y).2 ⟨hY, fun g hg => by
    have := (hasL_iff.1 h).2 g hg
    unfold sideI at this
    simp only at this
    omega⟩
  unfold cntC
  omega
end Go.Proofs.Ytabmfaamadbefaa
