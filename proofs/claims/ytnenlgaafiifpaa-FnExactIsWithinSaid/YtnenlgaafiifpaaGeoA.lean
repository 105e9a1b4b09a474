/- Half planes ordered by their angles, no program: a list of half planes, sorted, holds the tightest of each direction, and depends only on which half planes there are. Condition: no direction is zero; each is in lowest terms. -/
import Derived.Test.YtnenlgaafiifpaaPlain
namespace Go.Proofs.Ytnenlgaafiifpaa

structure H3 where
  a : Int
  b : Int
  c : Int
deriving DecidableEq

def cross (g h : H3) : Int := g.a * h.b - g.b * h.a
def upB (h : H3) : Bool := decide (0 < h.b) || (decide (h.b = 0) && decide (0 < h.a))
def before (g h : H3) : Bool := if upB g != upB h then upB g else decide (0 < cross g h)
def sameDir (g h : H3) : Bool := decide (cross g h = 0) && (upB g == upB h)
def sizeH (h : H3) : Int := if h.a ≠ 0 then max h.a (-h.a) else max h.b (-h.b)
def tighter (g h : H3) : H3 := if h.c * sizeH g < g.c * sizeH h then h else g
def NZ (h : H3) : Prop := h.a ≠ 0 ∨ h.b ≠ 0

theorem upB_iff (h : H3) : upB h = true ↔ 0 < h.b ∨ (h.b = 0 ∧ 0 < h.a) := by simp [upB]
theorem upB_not (h : H3) (hn : NZ h) : upB h = false ↔ h.b < 0 ∨ (h.b = 0 ∧ h.a < 0) := by
  unfold NZ at hn
  simp [upB]; omega

theorem size_pos {h : H3} (hn : NZ h) : 0 < sizeH h := by
  unfold NZ at hn; unfold sizeH; split <;> omega

theorem mul_pos' {a b : Int} (ha : 0 < a) (hb : 0 < b) : 0 < a * b := Int.mul_pos ha hb
theorem mul_neg' {a b : Int} (ha : 0 < a) (hb : b < 0) : a * b < 0 := Int.mul_neg_of_pos_of_neg ha hb

theorem cross_up {g h k : H3} (g1 : upB g = true) (h1 : upB h = true) (k1 : upB k = true) (p : 0 < cross g h) (q : 0 < cross h k) : 0 < cross g k := by
  rw [upB_iff] at g1 h1 k1
  have e1 : cross g k * h.b = cross h k * g.b + cross g h * k.b := by unfold cross; grind
  have e2 : cross g k * h.a = cross h k * g.a + cross g h * k.a := by unfold cross; grind
  have gb : 0 ≤ g.b := by omega
  have kb : 0 ≤ k.b := by omega
  rcases h1 with h1 | ⟨h1, h2⟩
  · apply Classical.byContradiction
    intro hn
    have l1 : cross g k * h.b ≤ 0 := Int.mul_nonpos_of_nonpos_of_nonneg (by omega) (by omega)
    have l2 : 0 ≤ cross h k * g.b := Int.mul_nonneg (by omega) gb
    have l3 : 0 ≤ cross g h * k.b := Int.mul_nonneg (by omega) kb
    have z2 : cross h k * g.b = 0 := by omega
    have z3 : cross g h * k.b = 0 := by omega
    have y2 : g.b = 0 := by rcases Int.mul_eq_zero.1 z2 with h | h <;> omega
    have y3 : k.b = 0 := by rcases Int.mul_eq_zero.1 z3 with h | h <;> omega
    have ka : 0 < k.a := by omega
    have : cross h k < 0 := by
      unfold cross; rw [y3]
      have := mul_pos' h1 ka
      omega
    omega
  · exfalso
    have q1 : 0 < h.a * k.b := by unfold cross at q; rw [h1] at q; omega
    have p1 : 0 < - (g.b * h.a) := by unfold cross at p; rw [h1] at p; omega
    have : 0 ≤ g.b * h.a := Int.mul_nonneg gb (by omega)
    omega

def negH (h : H3) : H3 := ⟨-h.a, -h.b, h.c⟩
theorem cross_neg (g h : H3) : cross (negH g) (negH h) = cross g h := by unfold cross negH; grind
theorem upB_neg {h : H3} (hn : NZ h) : upB (negH h) = !upB h := by
  unfold NZ at hn
  rw [Bool.eq_iff_iff, upB_iff]
  simp only [negH, Bool.not_eq_true', upB_not h hn]
  omega

theorem cross_trans {g h k : H3} (ng : NZ g) (nh : NZ h) (nk : NZ k) (e1 : upB g = upB h) (e2 : upB h = upB k) (p : 0 < cross g h) (q : 0 < cross h k) : 0 < cross g k := by
  cases hu : upB h with
  | true => exact cross_up (e1.trans hu) hu (e2 ▸ hu) p q
  | false =>
    rw [← cross_neg] at p q ⊢
    refine cross_up ?_ ?_ ?_ p q
    · rw [upB_neg ng, e1, hu]; rfl
    · rw [upB_neg nh, hu]; rfl
    · rw [upB_neg nk, ← e2, hu]; rfl

theorem before_iff (g h : H3) : before g h = true ↔ (upB g = true ∧ upB h = false) ∨ (upB g = upB h ∧ 0 < cross g h) := by
  unfold before; cases upB g <;> cases upB h <;> simp
theorem sameDir_iff (g h : H3) : sameDir g h = true ↔ cross g h = 0 ∧ upB g = upB h := by simp [sameDir]
theorem cross_anti (g h : H3) : cross h g = - cross g h := by unfold cross; grind

theorem before_trans {g h k : H3} (ng : NZ g) (nh : NZ h) (nk : NZ k) (p : before g h = true) (q : before h k = true) : before g k = true := by
  rw [before_iff] at *
  rcases p with ⟨p1, p2⟩ | ⟨p1, p2⟩ <;> rcases q with ⟨q1, q2⟩ | ⟨q1, q2⟩
  · rw [p2] at q1; cases q1
  · exact .inl ⟨p1, q1 ▸ p2⟩
  · exact .inl ⟨p1.trans q1, q2⟩
  · exact .inr ⟨p1.trans q1, cross_trans ng nh nk p1 q1 p2 q2⟩
theorem before_irrefl (g : H3) : before g g = false := by
  rw [Bool.eq_false_iff, Ne, before_iff]
  rintro (⟨h1, h2⟩ | ⟨_, h⟩)
  · rw [h1] at h2; cases h2
  · unfold cross at h; rw [Int.mul_comm] at h; omega
theorem before_asymm {g h : H3} (p : before g h = true) : before h g = false := by
  rw [Bool.eq_false_iff, Ne, before_iff]
  rw [before_iff] at p
  rintro (⟨h1, h2⟩ | ⟨h1, h2⟩)
  · rcases p with ⟨p1, p2⟩ | ⟨p1, p2⟩
    · rw [p1] at h2; cases h2
    · rw [h1, h2] at p1; cases p1
  · rcases p with ⟨p1, p2⟩ | ⟨p1, p2⟩
    · rw [p1, p2] at h1; cases h1
    · rw [cross_anti] at h2; omega
theorem trichotomy (g h : H3) : before g h = true ∨ sameDir g h = true ∨ before h g = true := by
  rw [before_iff, sameDir_iff, before_iff, cross_anti g h]
  cases upB g <;> cases upB h <;> simp <;> omega
theorem sameDir_not_before {g h : H3} (p : sameDir g h = true) : before g h = false := by
  rw [Bool.eq_false_iff, Ne, before_iff]
  rw [sameDir_iff] at p
  rintro (⟨h1, h2⟩ | ⟨h1, h2⟩)
  · rw [h1, h2] at p; cases p.2
  · omega
theorem sameDir_refl (g : H3) : sameDir g g = true := by
  rw [sameDir_iff]; refine ⟨?_, rfl⟩; unfold cross; rw [Int.mul_comm]; omega
theorem sameDir_symm {g h : H3} (p : sameDir g h = true) : sameDir h g = true := by
  rw [sameDir_iff] at *; rw [cross_anti]; exact ⟨by omega, p.2.symm⟩

/-- Two half planes of one direction: their numbers are in the ratio of their sizes. -/
theorem prop_of_sameDir {g h : H3} (ng : NZ g) (nh : NZ h) (p : sameDir g h = true) : g.a * sizeH h = h.a * sizeH g ∧ g.b * sizeH h = h.b * sizeH g := by
  rw [sameDir_iff] at p
  obtain ⟨c, u⟩ := p
  unfold cross at c
  have sg := size_pos ng
  have sh := size_pos nh
  by_cases ga : g.a = 0
  · have gb : g.b ≠ 0 := by unfold NZ at ng; omega
    have ha : h.a = 0 := by
      rw [ga] at c
      have : g.b * h.a = 0 := by omega
      rcases Int.mul_eq_zero.1 this with h | h
      · exact absurd h gb
      · exact h
    have hb : h.b ≠ 0 := by unfold NZ at nh; omega
    refine ⟨by rw [ga, ha]; simp, ?_⟩
    simp only [sizeH, ga, ha]
    have key : (0 < g.b ∧ 0 < h.b) ∨ (g.b < 0 ∧ h.b < 0) := by
      cases hu : upB h with
      | true => rw [hu] at u; rw [upB_iff] at u hu; omega
      | false => rw [hu] at u; rw [upB_not _ ng] at u; rw [upB_not _ nh] at hu; omega
    rcases key with ⟨k1, k2⟩ | ⟨k1, k2⟩
    · have e1 : max g.b (-g.b) = g.b := by omega
      have e2 : max h.b (-h.b) = h.b := by omega
      simp [e1, e2, Int.mul_comm]
    · have e1 : max g.b (-g.b) = -g.b := by omega
      have e2 : max h.b (-h.b) = -h.b := by omega
      simp [e1, e2]; grind
  · have ha : h.a ≠ 0 := by
      intro h0
      rw [h0] at c
      have : g.a * h.b = 0 := by omega
      rcases Int.mul_eq_zero.1 this with h | h
      · exact ga h
      · unfold NZ at nh; omega
    have key : (0 < g.a ∧ 0 < h.a) ∨ (g.a < 0 ∧ h.a < 0) := by
      have e : g.a * h.b = g.b * h.a := by omega
      by_cases gb : g.b = 0
      · have hb : h.b = 0 := by
          rw [gb] at e
          have : g.a * h.b = 0 := by omega
          rcases Int.mul_eq_zero.1 this with h | h
          · exact absurd h ga
          · exact h
        cases hu : upB h with
        | true => rw [hu] at u; rw [upB_iff] at u hu; omega
        | false => rw [hu] at u; rw [upB_not _ ng] at u; rw [upB_not _ nh] at hu; omega
      · have sb : (0 < g.b ∧ 0 < h.b) ∨ (g.b < 0 ∧ h.b < 0) := by
          have hb : h.b ≠ 0 := by
            intro h0
            rw [h0] at e
            have : g.b * h.a = 0 := by omega
            rcases Int.mul_eq_zero.1 this with h | h
            · exact gb h
            · exact ha h
          cases hu : upB h with
          | true => rw [hu] at u; rw [upB_iff] at u hu; omega
          | false => rw [hu] at u; rw [upB_not _ ng] at u; rw [upB_not _ nh] at hu; omega
        have m1 : ∀ x y : Int, 0 < x → 0 < y → 0 < x * y := fun x y => Int.mul_pos
        rcases sb with ⟨s1, s2⟩ | ⟨s1, s2⟩
        · rcases Int.lt_or_gt_of_ne ga with q | q <;> rcases Int.lt_or_gt_of_ne ha with r | r
          · exact .inr ⟨q, r⟩
          · have := Int.mul_neg_of_neg_of_pos q s2; have := Int.mul_pos s1 r; omega
          · have := Int.mul_pos q s2; have := Int.mul_neg_of_pos_of_neg s1 r; omega
          · exact .inl ⟨q, r⟩
        · rcases Int.lt_or_gt_of_ne ga with q | q <;> rcases Int.lt_or_gt_of_ne ha with r | r
          · exact .inr ⟨q, r⟩
          · have := Int.mul_pos_of_neg_of_neg q s2; have := Int.mul_neg_of_neg_of_pos s1 r; omega
          · have := Int.mul_neg_of_pos_of_neg q s2; have := Int.mul_pos_of_neg_of_neg s1 r; omega
          · exact .inl ⟨q, r⟩
    simp only [sizeH, if_pos ga, if_pos ha]
    rcases key with ⟨k1, k2⟩ | ⟨k1, k2⟩
    · have e1 : max g.a (-g.a) = g.a := by omega
      have e2 : max h.a (-h.a) = h.a := by omega
      simp only [e1, e2]; exact ⟨Int.mul_comm _ _, by grind⟩
    · have e1 : max g.a (-g.a) = -g.a := by omega
      have e2 : max h.a (-h.a) = -h.a := by omega
      simp only [e1, e2]; exact ⟨by grind, by grind⟩

theorem sameDir_of_prop {g h : H3} (ng : NZ g) (nh : NZ h) (ea : g.a * sizeH h = h.a * sizeH g) (eb : g.b * sizeH h = h.b * sizeH g) : sameDir g h = true := by
  have sg := size_pos ng
  have sh := size_pos nh
  have sgn : ∀ x y : Int, x * sizeH h = y * sizeH g → ((0 < x ↔ 0 < y) ∧ (x = 0 ↔ y = 0)) := by
    intro x y e
    have f1 : 0 < x → 0 < x * sizeH h := fun k => Int.mul_pos k sh
    have f2 : x < 0 → x * sizeH h < 0 := fun k => Int.mul_neg_of_neg_of_pos k sh
    have f3 : 0 < y → 0 < y * sizeH g := fun k => Int.mul_pos k sg
    have f4 : y < 0 → y * sizeH g < 0 := fun k => Int.mul_neg_of_neg_of_pos k sg
    have f5 : x = 0 → x * sizeH h = 0 := fun k => by rw [k]; simp
    have f6 : y = 0 → y * sizeH g = 0 := fun k => by rw [k]; simp
    omega
  rw [sameDir_iff]
  constructor
  · have e : cross g h * (sizeH g * sizeH h) = 0 := by unfold cross; grind
    rcases Int.mul_eq_zero.1 e with h | h
    · exact h
    · have := Int.mul_pos sg sh; omega
  · rw [Bool.eq_iff_iff, upB_iff, upB_iff]
    have := sgn _ _ ea; have := sgn _ _ eb; omega

theorem sameDir_trans {g h k : H3} (ng : NZ g) (nh : NZ h) (nk : NZ k) (p : sameDir g h = true) (q : sameDir h k = true) : sameDir g k = true := by
  obtain ⟨p1, p2⟩ := prop_of_sameDir ng nh p
  obtain ⟨q1, q2⟩ := prop_of_sameDir nh nk q
  have sh := size_pos nh
  refine sameDir_of_prop ng nk ?_ ?_
  · have : (g.a * sizeH k - k.a * sizeH g) * sizeH h = 0 := by grind
    rcases Int.mul_eq_zero.1 this with h | h <;> omega
  · have : (g.b * sizeH k - k.b * sizeH g) * sizeH h = 0 := by grind
    rcases Int.mul_eq_zero.1 this with h | h <;> omega

theorem cross_same_left {g g' h : H3} (ng : NZ g) (ng' : NZ g') (p : sameDir g g' = true) : cross g' h * sizeH g = cross g h * sizeH g' := by
  obtain ⟨p1, p2⟩ := prop_of_sameDir ng ng' p
  unfold cross; grind
theorem pos_of_mul_pos {x s : Int} (hs : 0 < s) (h : 0 < x * s) : 0 < x := by
  apply Classical.byContradiction; intro hn
  have := Int.mul_nonpos_of_nonpos_of_nonneg (a := x) (b := s) (by omega) (by omega)
  omega
theorem before_same_left {g g' h : H3} (ng : NZ g) (ng' : NZ g') (p : sameDir g g' = true) (q : before g h = true) : before g' h = true := by
  rw [before_iff] at *
  have u := ((sameDir_iff _ _).1 p).2
  rcases q with ⟨q1, q2⟩ | ⟨q1, q2⟩
  · exact .inl ⟨u ▸ q1, q2⟩
  · refine .inr ⟨u ▸ q1, pos_of_mul_pos (size_pos ng) ?_⟩
    rw [cross_same_left ng ng' p]
    exact Int.mul_pos q2 (size_pos ng')
theorem before_same_right {g h h' : H3} (nh : NZ h) (nh' : NZ h') (p : sameDir h h' = true) (q : before g h = true) : before g h' = true := by
  rw [before_iff] at *
  have u := ((sameDir_iff _ _).1 p).2
  rcases q with ⟨q1, q2⟩ | ⟨q1, q2⟩
  · exact .inl ⟨q1, u ▸ q2⟩
  · refine .inr ⟨q1.trans u, pos_of_mul_pos (size_pos nh) ?_⟩
    have e := cross_same_left (h := g) nh nh' p
    have e1 := cross_anti g h
    have e2 := cross_anti g h'
    have e3 : cross g h' * sizeH h = cross g h * sizeH h' := by grind
    rw [e3]
    exact Int.mul_pos q2 (size_pos nh')

/-- y is of x's direction, and no wider. -/
def Tle (y x : H3) : Prop := sameDir y x = true ∧ y.c * sizeH x ≤ x.c * sizeH y
theorem Tle.refl (x : H3) : Tle x x := ⟨sameDir_refl x, Int.le_refl _⟩
theorem Tle.trans {x y z : H3} (nx : NZ x) (ny : NZ y) (nz : NZ z) (p : Tle x y) (q : Tle y z) : Tle x z := by
  refine ⟨sameDir_trans nx ny nz p.1 q.1, ?_⟩
  have sx := size_pos nx
  have sy := size_pos ny
  have sz := size_pos nz
  have p2 := p.2
  have q2 := q.2
  apply Classical.byContradiction
  intro hn
  have h1 : x.c * sizeH y * sizeH z ≤ y.c * sizeH x * sizeH z := Int.mul_le_mul_of_nonneg_right p2 (by omega)
  have h2 : y.c * sizeH z * sizeH x ≤ z.c * sizeH y * sizeH x := Int.mul_le_mul_of_nonneg_right q2 (by omega)
  have h3 : 0 < (x.c * sizeH z - z.c * sizeH x) * sizeH y := Int.mul_pos (by omega) sy
  grind
theorem tighter_cases (g h : H3) : tighter g h = g ∨ tighter g h = h := by
  unfold tighter; split <;> simp
theorem tighter_left {g h : H3} (p : sameDir g h = true) : Tle (tighter g h) g := by
  unfold tighter; split
  · exact ⟨sameDir_symm p, by omega⟩
  · exact Tle.refl g
theorem tighter_right {g h : H3} (p : sameDir g h = true) : Tle (tighter g h) h := by
  unfold tighter; split
  · exact Tle.refl h
  · exact ⟨p, by omega⟩

def insH : List H3 → H3 → List H3
  | [], h => [h]
  | g :: r, h => if before g h then g :: insH r h else if sameDir g h then tighter g h :: r else h :: g :: r
def sortH (l : List H3) : List H3 := l.foldl insH []
def Sorted (l : List H3) : Prop := l.Pairwise fun g h => before g h = true
def AllNZ (l : List H3) : Prop := ∀ x ∈ l, NZ x

theorem mem_insH {x h : H3} : ∀ {l : List H3}, x ∈ insH l h → x = h ∨ x ∈ l := by
  intro l
  induction l with
  | nil => intro hx; simp [insH] at hx; exact .inl hx
  | cons g r ih =>
    intro hx
    unfold insH at hx
    split at hx
    · rcases List.mem_cons.1 hx with rfl | hx
      · exact .inr List.mem_cons_self
      · rcases ih hx with h | h
        · exact .inl h
        · exact .inr (List.mem_cons_of_mem _ h)
    · split at hx
      · rcases List.mem_cons.1 hx with rfl | hx
        · rcases tighter_cases g h with e | e
          · rw [e]; exact .inr List.mem_cons_self
          · exact .inl e
        · exact .inr (List.mem_cons_of_mem _ hx)
      · rcases List.mem_cons.1 hx with rfl | hx
        · exact .inl rfl
        · exact .inr hx

theorem insH_sorted {h : H3} (nh : NZ h) : ∀ {l : List H3}, AllNZ l → Sorted l → Sorted (insH l h) := by
  intro l
  induction l with
  | nil => intro _ _; unfold insH; exact List.pairwise_singleton _ _
  | cons g r ih =>
    intro hn hs
    have ng : NZ g := hn g List.mem_cons_self
    have nr : AllNZ r := fun x hx => hn x (List.mem_cons_of_mem _ hx)
    obtain ⟨h1, h2⟩ := List.pairwise_cons.1 hs
    unfold insH
    split
    · rename_i hb
      refine List.pairwise_cons.2 ⟨fun x hx => ?_, ih nr h2⟩
      rcases mem_insH hx with rfl | hx
      · exact hb
      · exact h1 x hx
    · rename_i hb
      split
      · rename_i hd
        refine List.pairwise_cons.2 ⟨fun x hx => ?_, h2⟩
        rcases tighter_cases g h with e | e
        · rw [e]; exact h1 x hx
        · rw [e]; exact before_same_left ng nh hd (h1 x hx)
      · rename_i hd
        have hg : before h g = true := by rcases trichotomy g h with q | q | q <;> simp_all
        refine List.pairwise_cons.2 ⟨fun x hx => ?_, hs⟩
        rcases List.mem_cons.1 hx with rfl | hx
        · exact hg
        · exact before_trans nh ng (nr x hx) hg (h1 x hx)

theorem insH_cover {h : H3} (nh : NZ h) : ∀ {l : List H3}, AllNZ l → ∀ x, x = h ∨ x ∈ l → ∃ y ∈ insH l h, Tle y x := by
  intro l
  induction l with
  | nil =>
    intro _ x hx
    rcases hx with rfl | hx
    · exact ⟨x, by simp [insH], Tle.refl x⟩
    · cases hx
  | cons g r ih =>
    intro hn x hx
    have nr : AllNZ r := fun x hx => hn x (List.mem_cons_of_mem _ hx)
    unfold insH
    split
    · rcases hx with rfl | hx
      · obtain ⟨y, hy, ht⟩ := ih nr x (.inl rfl)
        exact ⟨y, List.mem_cons_of_mem _ hy, ht⟩
      · rcases List.mem_cons.1 hx with rfl | hx
        · exact ⟨x, List.mem_cons_self, Tle.refl x⟩
        · obtain ⟨y, hy, ht⟩ := ih nr x (.inr hx)
          exact ⟨y, List.mem_cons_of_mem _ hy, ht⟩
    · split
      · rename_i hd
        rcases hx with rfl | hx
        · exact ⟨_, List.mem_cons_self, tighter_right hd⟩
        · rcases List.mem_cons.1 hx with rfl | hx
          · exact ⟨_, List.mem_cons_self, tighter_left hd⟩
          · exact ⟨x, List.mem_cons_of_mem _ hx, Tle.refl x⟩
      · rcases hx with rfl | hx
        · exact ⟨x, List.mem_cons_self, Tle.refl x⟩
        · exact ⟨x, List.mem_cons_of_mem _ hx, Tle.refl x⟩

theorem fold_insH : ∀ (l : List H3) (o : List H3), AllNZ l → AllNZ o → Sorted o → (Sorted (l.foldl insH o) ∧ (∀ x ∈ l.foldl insH o, x ∈ l ∨ x ∈ o) ∧ ∀ x, x ∈ l ∨ x ∈ o → ∃ y ∈ l.foldl insH o, Tle y x) := by
  intro l
  induction l with
  | nil => intro o _ _ hs; exact ⟨hs, fun x hx => .inr hx, fun x hx => ⟨x, by simpa using hx, Tle.refl x⟩⟩
  | cons h r ih =>
    intro o hl ho hs
    have nh : NZ h := hl h List.mem_cons_self
    have nr : AllNZ r := fun x hx => hl x (List.mem_cons_of_mem _ hx)
    have no : AllNZ (insH o h) := fun x hx => by
      rcases mem_insH hx with rfl | hx
      · exact nh
      · exact ho x hx
    obtain ⟨h1, h2, h3⟩ := ih (insH o h) nr no (insH_sorted nh ho hs)
    refine ⟨h1, fun x hx => ?_, fun x hx => ?_⟩
    · rcases h2 x hx with h | h
      · exact .inl (List.mem_cons_of_mem _ h)
      · rcases mem_insH h with rfl | h
        · exact .inl List.mem_cons_self
        · exact .inr h
    · have hc : x ∈ r ∨ ∃ y ∈ insH o h, Tle y x := by
        rcases hx with hx | hx
        · rcases List.mem_cons.1 hx with rfl | hx
          · exact .inr (insH_cover nh ho x (.inl rfl))
          · exact .inl hx
        · exact .inr (insH_cover nh ho x (.inr hx))
      rcases hc with hc | ⟨y, hy, ht⟩
      · exact h3 x (.inl hc)
      · obtain ⟨z, hz, hzt⟩ := h3 y (.inr hy)
        have nx : NZ x := by
          rcases hx with hx | hx
          · exact hl x hx
          · exact ho x hx
        have nz : NZ z := by
          rcases h2 z hz with h | h
          · exact nr z h
          · exact no z h
        exact ⟨z, hz, hzt.trans nz (no y hy) nx ht⟩

theorem sortH_sorted {l : List H3} (hl : AllNZ l) : Sorted (sortH l) := (fold_insH l [] hl (fun x h => by cases h) List.Pairwise.nil).1
theorem sortH_mem {l : List H3} (hl : AllNZ l) {x : H3} (h : x ∈ sortH l) : x ∈ l := by
  rcases (fold_insH l [] hl (fun x h => by cases h) List.Pairwise.nil).2.1 x h with h | h
  · exact h
  · cases h
theorem sortH_cover {l : List H3} (hl : AllNZ l) {x : H3} (h : x ∈ l) : ∃ y ∈ sortH l, Tle y x := (fold_insH l [] hl (fun x h => by cases h) List.Pairwise.nil).2.2 x (.inl h)

def Prim (h : H3) : Prop := gcdL [h.a, h.b, h.c] = 1

theorem gcdL3 (a b c : Int) : gcdL [a, b, c] = Nat.gcd (Nat.gcd a.natAbs b.natAbs) c.natAbs := by simp [gcdL]
theorem gcdL3_mul (s a b c : Int) : gcdL [a * s, b * s, c * s] = gcdL [a, b, c] * s.natAbs := by
  simp only [gcdL3, Int.natAbs_mul, Nat.gcd_mul_right]
/-- In lowest terms, and in one ratio: the same. -/
theorem prim_unique {g h : H3} (s t : Int) (hs : 0 < s) (ht : 0 < t) (pg : Prim g) (ph : Prim h) (ea : g.a * s = h.a * t) (eb : g.b * s = h.b * t) (ec : g.c * s = h.c * t) : g = h := by
  have e : gcdL [g.a * s, g.b * s, g.c * s] = gcdL [h.a * t, h.b * t, h.c * t] := by rw [ea, eb, ec]
  rw [gcdL3_mul, gcdL3_mul, show gcdL [g.a, g.b, g.c] = 1 from pg, show gcdL [h.a, h.b, h.c] = 1 from ph] at e
  have st : s = t := by omega
  subst st
  have c : ∀ x y : Int, x * s = y * s → x = y := fun x y e => Int.eq_of_mul_eq_mul_right (by omega) e
  cases g; cases h
  simp only [H3.mk.injEq]
  exact ⟨c _ _ ea, c _ _ eb, c _ _ ec⟩
theorem Tle.antisymm {g h : H3} (ng : NZ g) (nh : NZ h) (pg : Prim g) (ph : Prim h) (p : Tle g h) (q : Tle h g) : g = h := by
  obtain ⟨ea, eb⟩ := prop_of_sameDir ng nh p.1
  have p2 := p.2
  have q2 := q.2
  exact prim_unique (sizeH h) (sizeH g) (size_pos nh) (size_pos ng) pg ph ea eb (by omega)

theorem sorted_unique {l m : List H3} (hl : Sorted l) (hm : Sorted m) (h : ∀ x, x ∈ l ↔ x ∈ m) : l = m := by
  induction l generalizing m with
  | nil =>
    cases m with
    | nil => rfl
    | cons y r => exact absurd ((h y).2 List.mem_cons_self) (by simp)
  | cons x r ih =>
    cases m with
    | nil => exact absurd ((h x).1 List.mem_cons_self) (by simp)
    | cons y s =>
      obtain ⟨l1, l2⟩ := List.pairwise_cons.1 hl
      obtain ⟨m1, m2⟩ := List.pairwise_cons.1 hm
      have exy : x = y := by
        rcases List.mem_cons.1 ((h x).1 List.mem_cons_self) with e | hx
        · exact e
        · rcases List.mem_cons.1 ((h y).2 List.mem_cons_self) with e | hy
          · exact e.symm
          · have := before_asymm (l1 y hy)
            rw [m1 x hx] at this; cases this
      subst exy
      congr 1
      refine ih l2 m2 fun z => ⟨fun hz => ?_, fun hz => ?_⟩
      · rcases List.mem_cons.1 ((h z).1 (List.mem_cons_of_mem _ hz)) with rfl | h'
        · have := l1 z hz; rw [before_irrefl] at this; cases this
        · exact h'
      · rcases List.mem_cons.1 ((h z).2 (List.mem_cons_of_mem _ hz)) with rfl | h'
        · have := m1 z hz; rw [before_irrefl] at this; cases this
        · exact h'

theorem sorted_same_eq {l : List H3} (hl : Sorted l) {x y : H3} (hx : x ∈ l) (hy : y ∈ l) (p : sameDir x y = true) : x = y := by
  induction l with
  | nil => cases hx
  | cons z r ih =>
    obtain ⟨l1, l2⟩ := List.pairwise_cons.1 hl
    rcases List.mem_cons.1 hx with ex | hx' <;> rcases List.mem_cons.1 hy with ey | hy'
    · rw [ex, ey]
    · subst ex; have := sameDir_not_before p; rw [l1 y hy'] at this; cases this
    · subst ey; have := sameDir_not_before (sameDir_symm p); rw [l1 x hx'] at this; cases this
    · exact ih l2 hx' hy'

/-- The sorted list hangs on which half planes there are, and on nothing else. -/
theorem sortH_ext {l m : List H3} (nl : AllNZ l) (pl : ∀ x ∈ l, Prim x) (h : ∀ x, x ∈ l ↔ x ∈ m) : sortH l = sortH m := by
  have nm : AllNZ m := fun x hx => nl x ((h x).2 hx)
  refine sorted_unique (sortH_sorted nl) (sortH_sorted nm) ?_
  have key : ∀ (l m : List H3), AllNZ l → AllNZ m → (∀ x ∈ l, Prim x) → (∀ x ∈ m, Prim x) → (∀ x, x ∈ l ↔ x ∈ m) → ∀ x, x ∈ sortH l → x ∈ sortH m := by
    intro l m nl nm pl pm h x hx
    have xl := sortH_mem nl hx
    obtain ⟨y, hy, hyx⟩ := sortH_cover nm ((h x).1 xl)
    have ym := sortH_mem nm hy
    obtain ⟨z, hz, hzy⟩ := sortH_cover nl ((h y).2 ym)
    have zl := sortH_mem nl hz
    have hzx := hzy.trans (nl z zl) (nm y ym) (nl x xl) hyx
    have ezx : z = x := sorted_same_eq (sortH_sorted nl) hz hx hzx.1
    subst ezx
    rw [Tle.antisymm (nl z zl) (nm y ym) (pl z zl) (pm y ym) hzy hyx]
    exact hy
  have pm : ∀ x ∈ m, Prim x := fun x hx => pl x ((h x).2 hx)
  exact fun x => ⟨key l m nl nm pl pm h x, key m l nm nl pm pl (fun x => (h x).symm) x⟩
end Go.Proofs.Ytnenlgaafiifpaa
