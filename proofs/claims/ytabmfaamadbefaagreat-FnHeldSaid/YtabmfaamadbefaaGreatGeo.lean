/- Half planes ordered by their angles, no program: a list of half planes, sorted, holds the tightest of each direction, and depends only on which half planes there are. Condition: no direction is zero; each is in lowest terms. Half planes and points of the plane, no program: on the border of a half plane of a list lies more than one point of all of them exactly if its crossings with the others leave room. Condition: no direction is zero. The program's test of an edge and the reference's, as plain functions, no program: both tell whether a border bears more than one point. Condition: the list is sorted, no direction is zero, and its borders bound it. The reference's test of an edge, as a plain function, no program: it too tells whether a border bears more than one point. Condition: the list is sorted, holds only valid half planes, and lies within the frame. Regions as lists of half planes, no program: the program's way to find the edges and the reference's give the same list. Condition: valid half planes, the frame among them. Regions as lists of half planes, no program: the region of a list of half planes, as the program makes it and as the reference makes it: the same. Condition: valid half planes. The scans of a list but for one index, step by step, no program. No condition. Insertion into a sorted list, by the index at which it stops, no program. No condition. Plain: the edges of a meet are edges of the regions that meet; so they are few. No program. Plain: the borders of two neighbours of a region cross in a spot of it. No program. -/
import Derived.Test.YtabmfaamadbefaaGreatSup
namespace Go.Proofs.YtabmfaamadbefaaGreat
structure H3 where
  a : Int
  b : Int
  c : Int
deriving DecidableEq

def cross (g h : H3) : Int := g.a * h.b - g.b * h.a
def upB (h : H3) : Bool := decide (0 < h.b) || (decide (h.b = 0) && decide (0 < h.a))
def before (g h : H3) : Bool := if upB g != upB h then upB g else decide (0 < cross g h)
def sameDir (g h : H3) : Bool := decide (cross g h = 0) && (upB g == upB h)
def sizeH (h : H3) : Int := if h.a ≠ 0 then max h.a (-h.a) else max h.b (-h.b)
def tighter (g h : H3) : H3 := if h.c * sizeH g < g.c * sizeH h then h else g
def NZ (h : H3) : Prop := h.a ≠ 0 ∨ h.b ≠ 0

theorem upB_iff (h : H3) : upB h = true ↔ 0 < h.b ∨ (h.b = 0 ∧ 0 < h.a) := by simp [upB]
theorem upB_not (h : H3) (hn : NZ h) : upB h = false ↔ h.b < 0 ∨ (h.b = 0 ∧ h.a < 0) := by
  unfold NZ at hn
  simp [upB]; omega

theorem size_pos {h : H3} (hn : NZ h) : 0 < sizeH h := by
  unfold NZ at hn; unfold sizeH; split <;> omega

theorem mul_pos' {a b : Int} (ha : 0 < a) (hb : 0 < b) : 0 < a * b := Int.mul_pos ha hb
theorem mul_neg' {a b : Int} (ha : 0 < a) (hb : b < 0) : a * b < 0 := Int.mul_neg_of_pos_of_neg ha hb

theorem cross_up {g h k : H3} (g1 : upB g = true) (h1 : upB h = true) (k1 : upB k = true) (p : 0 < cross g h) (q : 0 < cross h k) : 0 < cross g k := by
  rw [upB_iff] at g1 h1 k1
  have e1 : cross g k * h.b = cross h k * g.b + cross g h * k.b := by unfold cross; grind
  have e2 : cross g k * h.a = cross h k * g.a + cross g h * k.a := by unfold cross; grind
  have gb : 0 ≤ g.b := by omega
  have kb : 0 ≤ k.b := by omega
  rcases h1 with h1 | ⟨h1, h2⟩
  · apply Classical.byContradiction
    intro hn
    have l1 : cross g k * h.b ≤ 0 := Int.mul_nonpos_of_nonpos_of_nonneg (by omega) (by omega)
    have l2 : 0 ≤ cross h k * g.b := Int.mul_nonneg (by omega) gb
    have l3 : 0 ≤ cross g h * k.b := Int.mul_nonneg (by omega) kb
    have z2 : cross h k * g.b = 0 := by omega
    have z3 : cross g h * k.b = 0 := by omega
    have y2 : g.b = 0 := by rcases Int.mul_eq_zero.1 z2 with h | h <;> omega
    have y3 : k.b = 0 := by rcases Int.mul_eq_zero.1 z3 with h | h <;> omega
    have ka : 0 < k.a := by omega
    have : cross h k < 0 := by
      unfold cross; rw [y3]
      have := mul_pos' h1 ka
      omega
    omega
  · exfalso
    have q1 : 0 < h.a * k.b := by unfold cross at q; rw [h1] at q; omega
    have p1 : 0 < - (g.b * h.a) := by unfold cross at p; rw [h1] at p; omega
    have : 0 ≤ g.b * h.a := Int.mul_nonneg gb (by omega)
    omega

def negH (h : H3) : H3 := ⟨-h.a, -h.b, h.c⟩
theorem cross_neg (g h : H3) : cross (negH g) (negH h) = cross g h := by unfold cross negH; grind
theorem upB_neg {h : H3} (hn : NZ h) : upB (negH h) = !upB h := by
  unfold NZ at hn
  rw [Bool.eq_iff_iff, upB_iff]
  simp only [negH, Bool.not_eq_true', upB_not h hn]
  omega

theorem cross_trans {g h k : H3} (ng : NZ g) (nh : NZ h) (nk : NZ k) (e1 : upB g = upB h) (e2 : upB h = upB k) (p : 0 < cross g h) (q : 0 < cross h k) : 0 < cross g k := by
  cases hu : upB h with
  | true => exact cross_up (e1.trans hu) hu (e2 ▸ hu) p q
  | false =>
    rw [← cross_neg] at p q ⊢
    refine cross_up ?_ ?_ ?_ p q
    · rw [upB_neg ng, e1, hu]; rfl
    · rw [upB_neg nh, hu]; rfl
    · rw [upB_neg nk, ← e2, hu]; rfl

theorem before_iff (g h : H3) : before g h = true ↔ (upB g = true ∧ upB h = false) ∨ (upB g = upB h ∧ 0 < cross g h) := by
  unfold before; cases upB g <;> cases upB h <;> simp
theorem sameDir_iff (g h : H3) : sameDir g h = true ↔ cross g h = 0 ∧ upB g = upB h := by simp [sameDir]
theorem cross_anti (g h : H3) : cross h g = - cross g h := by unfold cross; grind

theorem before_trans {g h k : H3} (ng : NZ g) (nh : NZ h) (nk : NZ k) (p : before g h = true) (q : before h k = true) : before g k = true := by
  rw [before_iff] at *
  rcases p with ⟨p1, p2⟩ | ⟨p1, p2⟩ <;> rcases q with ⟨q1, q2⟩ | ⟨q1, q2⟩
  · rw [p2] at q1; cases q1
  · exact .inl ⟨p1, q1 ▸ p2⟩
  · exact .inl ⟨p1.trans q1, q2⟩
  · exact .inr ⟨p1.trans q1, cross_trans ng nh nk p1 q1 p2 q2⟩
theorem before_irrefl (g : H3) : before g g = false := by
  rw [Bool.eq_false_iff, Ne, before_iff]
  rintro (⟨h1, h2⟩ | ⟨_, h⟩)
  · rw [h1] at h2; cases h2
  · unfold cross at h; rw [Int.mul_comm] at h; omega
theorem before_asymm {g h : H3} (p : before g h = true) : before h g = false := by
  rw [Bool.eq_false_iff, Ne, before_iff]
  rw [before_iff] at p
  rintro (⟨h1, h2⟩ | ⟨h1, h2⟩)
  · rcases p with ⟨p1, p2⟩ | ⟨p1, p2⟩
    · rw [p1] at h2; cases h2
    · rw [h1, h2] at p1; cases p1
  · rcases p with ⟨p1, p2⟩ | ⟨p1, p2⟩
    · rw [p1, p2] at h1; cases h1
    · rw [cross_anti] at h2; omega
theorem trichotomy (g h : H3) : before g h = true ∨ sameDir g h = true ∨ before h g = true := by
  rw [before_iff, sameDir_iff, before_iff, cross_anti g h]
  cases upB g <;> cases upB h <;> simp <;> omega
theorem sameDir_not_before {g h : H3} (p : sameDir g h = true) : before g h = false := by
  rw [Bool.eq_false_iff, Ne, before_iff]
  rw [sameDir_iff] at p
  rintro (⟨h1, h2⟩ | ⟨h1, h2⟩)
  · rw [h1, h2] at p; cases p.2
  · omega
theorem sameDir_refl (g : H3) : sameDir g g = true := by
  rw [sameDir_iff]; refine ⟨?_, rfl⟩; unfold cross; rw [Int.mul_comm]; omega
theorem sameDir_symm {g h : H3} (p : sameDir g h = true) : sameDir h g = true := by
  rw [sameDir_iff] at *; rw [cross_anti]; exact ⟨by omega, p.2.symm⟩

/-- Two half planes of one direction: their numbers are in the ratio of their sizes. -/
theorem prop_of_sameDir {g h : H3} (ng : NZ g) (nh : NZ h) (p : sameDir g h = true) : g.a * sizeH h = h.a * sizeH g ∧ g.b * sizeH h = h.b * sizeH g := by
  rw [sameDir_iff] at p
  obtain ⟨c, u⟩ := p
  unfold cross at c
  have sg := size_pos ng
  have sh := size_pos nh
  by_cases ga : g.a = 0
  · have gb : g.b ≠ 0 := by unfold NZ at ng; omega
    have ha : h.a = 0 := by
      rw [ga] at c
      have : g.b * h.a = 0 := by omega
      rcases Int.mul_eq_zero.1 this with h | h
      · exact absurd h gb
      · exact h
    have hb : h.b ≠ 0 := by unfold NZ at nh; omega
    refine ⟨by rw [ga, ha]; simp, ?_⟩
    simp only [sizeH, ga, ha]
    have key : (0 < g.b ∧ 0 < h.b) ∨ (g.b < 0 ∧ h.b < 0) := by
      cases hu : upB h with
      | true => rw [hu] at u; rw [upB_iff] at u hu; omega
      | false => rw [hu] at u; rw [upB_not _ ng] at u; rw [upB_not _ nh] at hu; omega
    rcases key with ⟨k1, k2⟩ | ⟨k1, k2⟩
    · have e1 : max g.b (-g.b) = g.b := by omega
      have e2 : max h.b (-h.b) = h.b := by omega
      simp [e1, e2, Int.mul_comm]
    · have e1 : max g.b (-g.b) = -g.b := by omega
      have e2 : max h.b (-h.b) = -h.b := by omega
      simp [e1, e2]; grind
  · have ha : h.a ≠ 0 := by
      intro h0
      rw [h0] at c
      have : g.a * h.b = 0 := by omega
      rcases Int.mul_eq_zero.1 this with h | h
      · exact ga h
      · unfold NZ at nh; omega
    have key : (0 < g.a ∧ 0 < h.a) ∨ (g.a < 0 ∧ h.a < 0) := by
      have e : g.a * h.b = g.b * h.a := by omega
      by_cases gb : g.b = 0
      · have hb : h.b = 0 := by
          rw [gb] at e
          have : g.a * h.b = 0 := by omega
          rcases Int.mul_eq_zero.1 this with h | h
          · exact absurd h ga
          · exact h
        cases hu : upB h with
        | true => rw [hu] at u; rw [upB_iff] at u hu; omega
        | false => rw [hu] at u; rw [upB_not _ ng] at u; rw [upB_not _ nh] at hu; omega
      · have sb : (0 < g.b ∧ 0 < h.b) ∨ (g.b < 0 ∧ h.b < 0) := by
          have hb : h.b ≠ 0 := by
            intro h0
            rw [h0] at e
            have : g.b * h.a = 0 := by omega
            rcases Int.mul_eq_zero.1 this with h | h
            · exact gb h
            · exact ha h
          cases hu : upB h with
          | true => rw [hu] at u; rw [upB_iff] at u hu; omega
          | false => rw [hu] at u; rw [upB_not _ ng] at u; rw [upB_not _ nh] at hu; omega
        have m1 : ∀ x y : Int, 0 < x → 0 < y → 0 < x * y := fun x y => Int.mul_pos
        rcases sb with ⟨s1, s2⟩ | ⟨s1, s2⟩
        · rcases Int.lt_or_gt_of_ne ga with q | q <;> rcases Int.lt_or_gt_of_ne ha with r | r
          · exact .inr ⟨q, r⟩
          · have := Int.mul_neg_of_neg_of_pos q s2; have := Int.mul_pos s1 r; omega
          · have := Int.mul_pos q s2; have := Int.mul_neg_of_pos_of_neg s1 r; omega
          · exact .inl ⟨q, r⟩
        · rcases Int.lt_or_gt_of_ne ga with q | q <;> rcases Int.lt_or_gt_of_ne ha with r | r
          · exact .inr ⟨q, r⟩
          · have := Int.mul_pos_of_neg_of_neg q s2; have := Int.mul_neg_of_neg_of_pos s1 r; omega
          · have := Int.mul_neg_of_pos_of_neg q s2; have := Int.mul_pos_of_neg_of_neg s1 r; omega
          · exact .inl ⟨q, r⟩
    simp only [sizeH, if_pos ga, if_pos ha]
    rcases key with ⟨k1, k2⟩ | ⟨k1, k2⟩
    · have e1 : max g.a (-g.a) = g.a := by omega
      have e2 : max h.a (-h.a) = h.a := by omega
      simp only [e1, e2]; exact ⟨Int.mul_comm _ _, by grind⟩
    · have e1 : max g.a (-g.a) = -g.a := by omega
      have e2 : max h.a (-h.a) = -h.a := by omega
      simp only [e1, e2]; exact ⟨by grind, by grind⟩

theorem sameDir_of_prop {g h : H3} (ng : NZ g) (nh : NZ h) (ea : g.a * sizeH h = h.a * sizeH g) (eb : g.b * sizeH h = h.b * sizeH g) : sameDir g h = true := by
  have sg := size_pos ng
  have sh := size_pos nh
  have sgn : ∀ x y : Int, x * sizeH h = y * sizeH g → ((0 < x ↔ 0 < y) ∧ (x = 0 ↔ y = 0)) := by
    intro x y e
    have f1 : 0 < x → 0 < x * sizeH h := fun k => Int.mul_pos k sh
    have f2 : x < 0 → x * sizeH h < 0 := fun k => Int.mul_neg_of_neg_of_pos k sh
    have f3 : 0 < y → 0 < y * sizeH g := fun k => Int.mul_pos k sg
    have f4 : y < 0 → y * sizeH g < 0 := fun k => Int.mul_neg_of_neg_of_pos k sg
    have f5 : x = 0 → x * sizeH h = 0 := fun k => by rw [k]; simp
    have f6 : y = 0 → y * sizeH g = 0 := fun k => by rw [k]; simp
    omega
  rw [sameDir_iff]
  constructor
  · have e : cross g h * (sizeH g * sizeH h) = 0 := by unfold cross; grind
    rcases Int.mul_eq_zero.1 e with h | h
    · exact h
    · have := Int.mul_pos sg sh; omega
  · rw [Bool.eq_iff_iff, upB_iff, upB_iff]
    have := sgn _ _ ea; have := sgn _ _ eb; omega

theorem sameDir_trans {g h k : H3} (ng : NZ g) (nh : NZ h) (nk : NZ k) (p : sameDir g h = true) (q : sameDir h k = true) : sameDir g k = true := by
  obtain ⟨p1, p2⟩ := prop_of_sameDir ng nh p
  obtain ⟨q1, q2⟩ := prop_of_sameDir nh nk q
  have sh := size_pos nh
  refine sameDir_of_prop ng nk ?_ ?_
  · have : (g.a * sizeH k - k.a * sizeH g) * sizeH h = 0 := by grind
    rcases Int.mul_eq_zero.1 this with h | h <;> omega
  · have : (g.b * sizeH k - k.b * sizeH g) * sizeH h = 0 := by grind
    rcases Int.mul_eq_zero.1 this with h | h <;> omega

theorem cross_same_left {g g' h : H3} (ng : NZ g) (ng' : NZ g') (p : sameDir g g' = true) : cross g' h * sizeH g = cross g h * sizeH g' := by
  obtain ⟨p1, p2⟩ := prop_of_sameDir ng ng' p
  unfold cross; grind
theorem pos_of_mul_pos {x s : Int} (hs : 0 < s) (h : 0 < x * s) : 0 < x := by
  apply Classical.byContradiction; intro hn
  have := Int.mul_nonpos_of_nonpos_of_nonneg (a := x) (b := s) (by omega) (by omega)
  omega
theorem before_same_left {g g' h : H3} (ng : NZ g) (ng' : NZ g') (p : sameDir g g' = true) (q : before g h = true) : before g' h = true := by
  rw [before_iff] at *
  have u := ((sameDir_iff _ _).1 p).2
  rcases q with ⟨q1, q2⟩ | ⟨q1, q2⟩
  · exact .inl ⟨u ▸ q1, q2⟩
  · refine .inr ⟨u ▸ q1, pos_of_mul_pos (size_pos ng) ?_⟩
    rw [cross_same_left ng ng' p]
    exact Int.mul_pos q2 (size_pos ng')
theorem before_same_right {g h h' : H3} (nh : NZ h) (nh' : NZ h') (p : sameDir h h' = true) (q : before g h = true) : before g h' = true := by
  rw [before_iff] at *
  have u := ((sameDir_iff _ _).1 p).2
  rcases q with ⟨q1, q2⟩ | ⟨q1, q2⟩
  · exact .inl ⟨q1, u ▸ q2⟩
  · refine .inr ⟨q1.trans u, pos_of_mul_pos (size_pos nh) ?_⟩
    have e := cross_same_left (h := g) nh nh' p
    have e1 := cross_anti g h
    have e2 := cross_anti g h'
    have e3 : cross g h' * sizeH h = cross g h * sizeH h' := by grind
    rw [e3]
    exact Int.mul_pos q2 (size_pos nh')

/-- y is of x's direction, and no wider. -/
def Tle (y x : H3) : Prop := sameDir y x = true ∧ y.c * sizeH x ≤ x.c * sizeH y
theorem Tle.refl (x : H3) : Tle x x := ⟨sameDir_refl x, Int.le_refl _⟩
theorem Tle.trans {x y z : H3} (nx : NZ x) (ny : NZ y) (nz : NZ z) (p : Tle x y) (q : Tle y z) : Tle x z := by
  refine ⟨sameDir_trans nx ny nz p.1 q.1, ?_⟩
  have sx := size_pos nx
  have sy := size_pos ny
  have sz := size_pos nz
  have p2 := p.2
  have q2 := q.2
  apply Classical.byContradiction
  intro hn
  have h1 : x.c * sizeH y * sizeH z ≤ y.c * sizeH x * sizeH z := Int.mul_le_mul_of_nonneg_right p2 (by omega)
  have h2 : y.c * sizeH z * sizeH x ≤ z.c * sizeH y * sizeH x := Int.mul_le_mul_of_nonneg_right q2 (by omega)
  have h3 : 0 < (x.c * sizeH z - z.c * sizeH x) * sizeH y := Int.mul_pos (by omega) sy
  grind
theorem tighter_cases (g h : H3) : tighter g h = g ∨ tighter g h = h := by
  unfold tighter; split <;> simp
theorem tighter_left {g h : H3} (p : sameDir g h = true) : Tle (tighter g h) g := by
  unfold tighter; split
  · exact ⟨sameDir_symm p, by omega⟩
  · exact Tle.refl g
theorem tighter_right {g h : H3} (p : sameDir g h = true) : Tle (tighter g h) h := by
  unfold tighter; split
  · exact Tle.refl h
  · exact ⟨p, by omega⟩

def insH : List H3 → H3 → List H3
  | [], h => [h]
  | g :: r, h => if before g h then g :: insH r h else if sameDir g h then tighter g h :: r else h :: g :: r
def sortH (l : List H3) : List H3 := l.foldl insH []
def Sorted (l : List H3) : Prop := l.Pairwise fun g h => before g h = true
def AllNZ (l : List H3) : Prop := ∀ x ∈ l, NZ x

theorem mem_insH {x h : H3} : ∀ {l : List H3}, x ∈ insH l h → x = h ∨ x ∈ l := by
  intro l
  induction l with
  | nil => intro hx; simp [insH] at hx; exact .inl hx
  | cons g r ih =>
    intro hx
    unfold insH at hx
    split at hx
    · rcases List.mem_cons.1 hx with rfl | hx
      · exact .inr List.mem_cons_self
      · rcases ih hx with h | h
        · exact .inl h
        · exact .inr (List.mem_cons_of_mem _ h)
    · split at hx
      · rcases List.mem_cons.1 hx with rfl | hx
        · rcases tighter_cases g h with e | e
          · rw [e]; exact .inr List.mem_cons_self
          · exact .inl e
        · exact .inr (List.mem_cons_of_mem _ hx)
      · rcases List.mem_cons.1 hx with rfl | hx
        · exact .inl rfl
        · exact .inr hx

theorem insH_sorted {h : H3} (nh : NZ h) : ∀ {l : List H3}, AllNZ l → Sorted l → Sorted (insH l h) := by
  intro l
  induction l with
  | nil => intro _ _; unfold insH; exact List.pairwise_singleton _ _
  | cons g r ih =>
    intro hn hs
    have ng : NZ g := hn g List.mem_cons_self
    have nr : AllNZ r := fun x hx => hn x (List.mem_cons_of_mem _ hx)
    obtain ⟨h1, h2⟩ := List.pairwise_cons.1 hs
    unfold insH
    split
    · rename_i hb
      refine List.pairwise_cons.2 ⟨fun x hx => ?_, ih nr h2⟩
      rcases mem_insH hx with rfl | hx
      · exact hb
      · exact h1 x hx
    · rename_i hb
      split
      · rename_i hd
        refine List.pairwise_cons.2 ⟨fun x hx => ?_, h2⟩
        rcases tighter_cases g h with e | e
        · rw [e]; exact h1 x hx
        · rw [e]; exact before_same_left ng nh hd (h1 x hx)
      · rename_i hd
        have hg : before h g = true := by rcases trichotomy g h with q | q | q <;> simp_all
        refine List.pairwise_cons.2 ⟨fun x hx => ?_, hs⟩
        rcases List.mem_cons.1 hx with rfl | hx
        · exact hg
        · exact before_trans nh ng (nr x hx) hg (h1 x hx)

theorem insH_cover {h : H3} (nh : NZ h) : ∀ {l : List H3}, AllNZ l → ∀ x, x = h ∨ x ∈ l → ∃ y ∈ insH l h, Tle y x := by
  intro l
  induction l with
  | nil =>
    intro _ x hx
    rcases hx with rfl | hx
    · exact ⟨x, by simp [insH], Tle.refl x⟩
    · cases hx
  | cons g r ih =>
    intro hn x hx
    have nr : AllNZ r := fun x hx => hn x (List.mem_cons_of_mem _ hx)
    unfold insH
    split
    · rcases hx with rfl | hx
      · obtain ⟨y, hy, ht⟩ := ih nr x (.inl rfl)
        exact ⟨y, List.mem_cons_of_mem _ hy, ht⟩
      · rcases List.mem_cons.1 hx with rfl | hx
        · exact ⟨x, List.mem_cons_self, Tle.refl x⟩
        · obtain ⟨y, hy, ht⟩ := ih nr x (.inr hx)
          exact ⟨y, List.mem_cons_of_mem _ hy, ht⟩
    · split
      · rename_i hd
        rcases hx with rfl | hx
        · exact ⟨_, List.mem_cons_self, tighter_right hd⟩
        · rcases List.mem_cons.1 hx with rfl | hx
          · exact ⟨_, List.mem_cons_self, tighter_left hd⟩
          · exact ⟨x, List.mem_cons_of_mem _ hx, Tle.refl x⟩
      · rcases hx with rfl | hx
        · exact ⟨x, List.mem_cons_self, Tle.refl x⟩
        · exact ⟨x, List.mem_cons_of_mem _ hx, Tle.refl x⟩

theorem fold_insH : ∀ (l : List H3) (o : List H3), AllNZ l → AllNZ o → Sorted o → (Sorted (l.foldl insH o) ∧ (∀ x ∈ l.foldl insH o, x ∈ l ∨ x ∈ o) ∧ ∀ x, x ∈ l ∨ x ∈ o → ∃ y ∈ l.foldl insH o, Tle y x) := by
  intro l
  induction l with
  | nil => intro o _ _ hs; exact ⟨hs, fun x hx => .inr hx, fun x hx => ⟨x, by simpa using hx, Tle.refl x⟩⟩
  | cons h r ih =>
    intro o hl ho hs
    have nh : NZ h := hl h List.mem_cons_self
    have nr : AllNZ r := fun x hx => hl x (List.mem_cons_of_mem _ hx)
    have no : AllNZ (insH o h) := fun x hx => by
      rcases mem_insH hx with rfl | hx
      · exact nh
      · exact ho x hx
    obtain ⟨h1, h2, h3⟩ := ih (insH o h) nr no (insH_sorted nh ho hs)
    refine ⟨h1, fun x hx => ?_, fun x hx => ?_⟩
    · rcases h2 x hx with h | h
      · exact .inl (List.mem_cons_of_mem _ h)
      · rcases mem_insH h with rfl | h
        · exact .inl List.mem_cons_self
        · exact .inr h
    · have hc : x ∈ r ∨ ∃ y ∈ insH o h, Tle y x := by
        rcases hx with hx | hx
        · rcases List.mem_cons.1 hx with rfl | hx
          · exact .inr (insH_cover nh ho x (.inl rfl))
          · exact .inl hx
        · exact .inr (insH_cover nh ho x (.inr hx))
      rcases hc with hc | ⟨y, hy, ht⟩
      · exact h3 x (.inl hc)
      · obtain ⟨z, hz, hzt⟩ := h3 y (.inr hy)
        have nx : NZ x := by
          rcases hx with hx | hx
          · exact hl x hx
          · exact ho x hx
        have nz : NZ z := by
          rcases h2 z hz with h | h
          · exact nr z h
          · exact no z h
        exact ⟨z, hz, hzt.trans nz (no y hy) nx ht⟩

theorem sortH_sorted {l : List H3} (hl : AllNZ l) : Sorted (sortH l) := (fold_insH l [] hl (fun x h => by cases h) List.Pairwise.nil).1
theorem sortH_mem {l : List H3} (hl : AllNZ l) {x : H3} (h : x ∈ sortH l) : x ∈ l := by
  rcases (fold_insH l [] hl (fun x h => by cases h) List.Pairwise.nil).2.1 x h with h | h
  · exact h
  · cases h
theorem sortH_cover {l : List H3} (hl : AllNZ l) {x : H3} (h : x ∈ l) : ∃ y ∈ sortH l, Tle y x := (fold_insH l [] hl (fun x h => by cases h) List.Pairwise.nil).2.2 x (.inl h)

def Prim (h : H3) : Prop := gcdL [h.a, h.b, h.c] = 1

theorem gcdL3 (a b c : Int) : gcdL [a, b, c] = Nat.gcd (Nat.gcd a.natAbs b.natAbs) c.natAbs := by simp [gcdL]
theorem gcdL3_mul (s a b c : Int) : gcdL [a * s, b * s, c * s] = gcdL [a, b, c] * s.natAbs := by
  simp only [gcdL3, Int.natAbs_mul, Nat.gcd_mul_right]
/-- In lowest terms, and in one ratio: the same. -/
theorem prim_unique {g h : H3} (s t : Int) (hs : 0 < s) (ht : 0 < t) (pg : Prim g) (ph : Prim h) (ea : g.a * s = h.a * t) (eb : g.b * s = h.b * t) (ec : g.c * s = h.c * t) : g = h := by
  have e : gcdL [g.a * s, g.b * s, g.c * s] = gcdL [h.a * t, h.b * t, h.c * t] := by rw [ea, eb, ec]
  rw [gcdL3_mul, gcdL3_mul, show gcdL [g.a, g.b, g.c] = 1 from pg, show gcdL [h.a, h.b, h.c] = 1 from ph] at e
  have st : s = t := by omega
  subst st
  have c : ∀ x y : Int, x * s = y * s → x = y := fun x y e => Int.eq_of_mul_eq_mul_right (by omega) e
  cases g; cases h
  simp only [H3.mk.injEq]
  exact ⟨c _ _ ea, c _ _ eb, c _ _ ec⟩
theorem Tle.antisymm {g h : H3} (ng : NZ g) (nh : NZ h) (pg : Prim g) (ph : Prim h) (p : Tle g h) (q : Tle h g) : g = h := by
  obtain ⟨ea, eb⟩ := prop_of_sameDir ng nh p.1
  have p2 := p.2
  have q2 := q.2
  exact prim_unique (sizeH h) (sizeH g) (size_pos nh) (size_pos ng) pg ph ea eb (by omega)

theorem sorted_unique {l m : List H3} (hl : Sorted l) (hm : Sorted m) (h : ∀ x, x ∈ l ↔ x ∈ m) : l = m := by
  induction l generalizing m with
  | nil =>
    cases m with
    | nil => rfl
    | cons y r => exact absurd ((h y).2 List.mem_cons_self) (by simp)
  | cons x r ih =>
    cases m with
    | nil => exact absurd ((h x).1 List.mem_cons_self) (by simp)
    | cons y s =>
      obtain ⟨l1, l2⟩ := List.pairwise_cons.1 hl
      obtain ⟨m1, m2⟩ := List.pairwise_cons.1 hm
      have exy : x = y := by
        rcases List.mem_cons.1 ((h x).1 List.mem_cons_self) with e | hx
        · exact e
        · rcases List.mem_cons.1 ((h y).2 List.mem_cons_self) with e | hy
          · exact e.symm
          · have := before_asymm (l1 y hy)
            rw [m1 x hx] at this; cases this
      subst exy
      congr 1
      refine ih l2 m2 fun z => ⟨fun hz => ?_, fun hz => ?_⟩
      · rcases List.mem_cons.1 ((h z).1 (List.mem_cons_of_mem _ hz)) with rfl | h'
        · have := l1 z hz; rw [before_irrefl] at this; cases this
        · exact h'
      · rcases List.mem_cons.1 ((h z).2 (List.mem_cons_of_mem _ hz)) with rfl | h'
        · have := m1 z hz; rw [before_irrefl] at this; cases this
        · exact h'

theorem sorted_same_eq {l : List H3} (hl : Sorted l) {x y : H3} (hx : x ∈ l) (hy : y ∈ l) (p : sameDir x y = true) : x = y := by
  induction l with
  | nil => cases hx
  | cons z r ih =>
    obtain ⟨l1, l2⟩ := List.pairwise_cons.1 hl
    rcases List.mem_cons.1 hx with ex | hx' <;> rcases List.mem_cons.1 hy with ey | hy'
    · rw [ex, ey]
    · subst ex; have := sameDir_not_before p; rw [l1 y hy'] at this; cases this
    · subst ey; have := sameDir_not_before (sameDir_symm p); rw [l1 x hx'] at this; cases this
    · exact ih l2 hx' hy'

/-- The sorted list hangs on which half planes there are, and on nothing else. -/
theorem sortH_ext {l m : List H3} (nl : AllNZ l) (pl : ∀ x ∈ l, Prim x) (h : ∀ x, x ∈ l ↔ x ∈ m) : sortH l = sortH m := by
  have nm : AllNZ m := fun x hx => nl x ((h x).2 hx)
  refine sorted_unique (sortH_sorted nl) (sortH_sorted nm) ?_
  have key : ∀ (l m : List H3), AllNZ l → AllNZ m → (∀ x ∈ l, Prim x) → (∀ x ∈ m, Prim x) → (∀ x, x ∈ l ↔ x ∈ m) → ∀ x, x ∈ sortH l → x ∈ sortH m := by
    intro l m nl nm pl pm h x hx
    have xl := sortH_mem nl hx
    obtain ⟨y, hy, hyx⟩ := sortH_cover nm ((h x).1 xl)
    have ym := sortH_mem nm hy
    obtain ⟨z, hz, hzy⟩ := sortH_cover nl ((h y).2 ym)
    have zl := sortH_mem nl hz
    have hzx := hzy.trans (nl z zl) (nm y ym) (nl x xl) hyx
    have ezx : z = x := sorted_same_eq (sortH_sorted nl) hz hx hzx.1
    subst ezx
    rw [Tle.antisymm (nl z zl) (nm y ym) (pl z zl) (pm y ym) hzy hyx]
    exact hy
  have pm : ∀ x ∈ m, Prim x := fun x hx => pl x ((h x).2 hx)
  exact fun x => ⟨key l m nl nm pl pm h x, key m l nm nl pm pl (fun x => (h x).symm) x⟩
end Go.Proofs.YtabmfaamadbefaaGreat
namespace Go.Proofs.YtabmfaamadbefaaGreat
structure Pt where
  x : Rat
  y : Rat

def val (h : H3) (p : Pt) : Rat := (h.a : Rat) * p.x + (h.b : Rat) * p.y
def prm (h : H3) (p : Pt) : Rat := (h.a : Rat) * p.y - (h.b : Rat) * p.x
def In (h : H3) (p : Pt) : Prop := val h p ≤ (h.c : Rat)
def On (h : H3) (p : Pt) : Prop := val h p = (h.c : Rat)
def Inside (l : List H3) (p : Pt) : Prop := ∀ g ∈ l, In g p
def dotH (g h : H3) : Int := g.a * h.a + g.b * h.b
def nrm (h : H3) : Int := h.a * h.a + h.b * h.b

theorem On.in {h : H3} {p : Pt} (o : On h p) : In h p := by unfold On at o; unfold In; rw [o]; exact Rat.le_refl

theorem nrm_pos {h : H3} (n : NZ h) : 0 < nrm h := by
  unfold nrm; unfold NZ at n
  have sq : ∀ x : Int, x ≠ 0 → 0 < x * x := fun x hx => by
    rcases Int.lt_or_gt_of_ne hx with k | k
    · exact Int.mul_pos_of_neg_of_neg k k
    · exact Int.mul_pos k k
  have sq0 : ∀ x : Int, 0 ≤ x * x := fun x => by
    by_cases hx : x = 0
    · rw [hx]; simp
    · have := sq x hx; omega
  have := sq0 h.a; have := sq0 h.b
  rcases n with n | n
  · have := sq _ n; omega
  · have := sq _ n; omega
theorem nrmQ_pos {h : H3} (n : NZ h) : (0 : Rat) < (nrm h : Rat) := by exact_mod_cast nrm_pos n
theorem nrmQ_ne {h : H3} (n : NZ h) : (nrm h : Rat) ≠ 0 := by have := nrmQ_pos n; grind
theorem nrmQ (h : H3) : (nrm h : Rat) = (h.a : Rat) * h.a + (h.b : Rat) * h.b := by unfold nrm; push_cast; rfl
theorem crossQ (g h : H3) : (cross g h : Rat) = (g.a : Rat) * h.b - (g.b : Rat) * h.a := by unfold cross; push_cast; rfl
theorem dotQ (g h : H3) : (dotH g h : Rat) = (g.a : Rat) * h.a + (g.b : Rat) * h.b := by unfold dotH; push_cast; rfl

/-- What a half plane says of a point, by its place along and across another one. -/
theorem val_split (h g : H3) (p : Pt) : (nrm h : Rat) * val g p = (dotH h g : Rat) * val h p + (cross h g : Rat) * prm h p := by
  rw [nrmQ, crossQ, dotQ]; unfold val prm; grind

theorem pt_eq {h : H3} (n : NZ h) {p q : Pt} (e1 : val h p = val h q) (e2 : prm h p = prm h q) : p = q := by
  have np := nrmQ_ne n
  rw [nrmQ] at np
  unfold val at e1; unfold prm at e2
  have m1 : ((h.a : Rat) * h.a + (h.b : Rat) * h.b) * (p.x - q.x) = 0 := by grind
  have m2 : ((h.a : Rat) * h.a + (h.b : Rat) * h.b) * (p.y - q.y) = 0 := by grind
  have ex : p.x = q.x := by rcases Rat.mul_eq_zero.1 m1 with k | k <;> grind
  have ey : p.y = q.y := by rcases Rat.mul_eq_zero.1 m2 with k | k <;> grind
  cases p; cases q; simp_all

/-- The point on h's border at place t. -/
def ptAt (h : H3) (t : Rat) : Pt := ⟨((h.a : Rat) * h.c - h.b * t) / nrm h, ((h.b : Rat) * h.c + h.a * t) / nrm h⟩
theorem ptAt_on {h : H3} (n : NZ h) (t : Rat) : On h (ptAt h t) := by
  have np := nrmQ_ne n
  unfold On val ptAt; rw [nrmQ] at *; grind
theorem ptAt_prm {h : H3} (n : NZ h) (t : Rat) : prm h (ptAt h t) = t := by
  have np := nrmQ_ne n
  unfold prm ptAt; rw [nrmQ] at *; grind

/-- The crossing of two borders, as a place on the first one's. -/
def crossT (h g : H3) : Rat := ((nrm h : Rat) * g.c - (dotH h g : Rat) * h.c) / (cross h g : Rat)

theorem in_iff_pos {h g : H3} (n : NZ h) (k : 0 < cross h g) {p : Pt} (o : On h p) : In g p ↔ prm h p ≤ crossT h g := by
  have np := nrmQ_pos n
  have kq : (0 : Rat) < (cross h g : Rat) := by exact_mod_cast k
  have e := val_split h g p
  unfold On at o; rw [o] at e
  have ct : (cross h g : Rat) * crossT h g = (nrm h : Rat) * g.c - (dotH h g : Rat) * h.c := by unfold crossT; grind
  unfold In
  constructor
  · intro hi
    apply Classical.byContradiction; intro hn
    have m1 : (nrm h : Rat) * val g p ≤ (nrm h : Rat) * g.c := Rat.mul_le_mul_of_nonneg_left hi (by grind)
    have m2 : (0 : Rat) < (cross h g : Rat) * (prm h p - crossT h g) := Rat.mul_pos kq (by grind)
    grind
  · intro hi
    apply Classical.byContradiction; intro hn
    have m1 : (0 : Rat) < (nrm h : Rat) * (val g p - g.c) := Rat.mul_pos np (by grind)
    have m2 : (cross h g : Rat) * prm h p ≤ (cross h g : Rat) * crossT h g := Rat.mul_le_mul_of_nonneg_left hi (by grind)
    grind
theorem in_iff_neg {h g : H3} (n : NZ h) (k : cross h g < 0) {p : Pt} (o : On h p) : In g p ↔ crossT h g ≤ prm h p := by
  have np := nrmQ_pos n
  have kq : (0 : Rat) < -(cross h g : Rat) := by
    have : (0 : Rat) < ((-cross h g : Int) : Rat) := by exact_mod_cast (by omega : 0 < -cross h g)
    push_cast at this; exact this
  have e := val_split h g p
  unfold On at o; rw [o] at e
  have ct : (cross h g : Rat) * crossT h g = (nrm h : Rat) * g.c - (dotH h g : Rat) * h.c := by unfold crossT; grind
  unfold In
  constructor
  · intro hi
    apply Classical.byContradiction; intro hn
    have m1 : (nrm h : Rat) * val g p ≤ (nrm h : Rat) * g.c := Rat.mul_le_mul_of_nonneg_left hi (by grind)
    have m2 : (0 : Rat) < -(cross h g : Rat) * (crossT h g - prm h p) := Rat.mul_pos kq (by grind)
    grind
  · intro hi
    apply Classical.byContradiction; intro hn
    have m1 : (0 : Rat) < (nrm h : Rat) * (val g p - g.c) := Rat.mul_pos np (by grind)
    have m2 : -(cross h g : Rat) * crossT h g ≤ -(cross h g : Rat) * prm h p := Rat.mul_le_mul_of_nonneg_left hi (by grind)
    grind
/-- Along a parallel border nothing changes. -/
theorem in_iff_par {h g : H3} (n : NZ h) (k : cross h g = 0) {p q : Pt} (o : On h p) (o' : On h q) : In g p ↔ In g q := by
  have np := nrmQ_pos n
  have e := val_split h g p
  have e' := val_split h g q
  unfold On at o o'; rw [o] at e; rw [o'] at e'
  have k0 : (cross h g : Rat) = 0 := by exact_mod_cast k
  rw [k0] at e e'
  have : val g p = val g q := by grind
  unfold In; rw [this]
theorem crossT_on {h g : H3} (n : NZ h) (k : cross h g ≠ 0) {p : Pt} (o : On h p) : On g p ↔ prm h p = crossT h g := by
  have np := nrmQ_pos n
  have kq : (cross h g : Rat) ≠ 0 := by exact_mod_cast k
  have e := val_split h g p
  unfold On at o; rw [o] at e
  have ct : (cross h g : Rat) * crossT h g = (nrm h : Rat) * g.c - (dotH h g : Rat) * h.c := by unfold crossT; grind
  unfold On
  constructor <;> intro hi <;> grind

/-- h's border bears more than one point of all half planes. -/
def Edge (l : List H3) (h : H3) : Prop := ∃ p q : Pt, On h p ∧ On h q ∧ prm h p < prm h q ∧ Inside l p ∧ Inside l q

end Go.Proofs.YtabmfaamadbefaaGreat
namespace Go.Proofs.YtabmfaamadbefaaGreat
abbrev Fr := Int × Int
def fr (m : Fr) : Rat := (m.1 : Rat) / (m.2 : Rat)
/-- -1, 0 or 1: how two fractions with positive denominators compare. -/
def cmpF (a b c d : Int) : Int := if a * d < c * b then -1 else if c * b < a * d then 1 else 0

theorem cmpF_neg {m n : Fr} (hm : 0 < m.2) (hn : 0 < n.2) : cmpF m.1 m.2 n.1 n.2 < 0 ↔ fr m < fr n := by
  have qm : (0 : Rat) < (m.2 : Rat) := by exact_mod_cast hm
  have qn : (0 : Rat) < (n.2 : Rat) := by exact_mod_cast hn
  have key : m.1 * n.2 < n.1 * m.2 ↔ fr m < fr n := by
    have e1 : (m.1 : Rat) = fr m * m.2 := by unfold fr; grind
    have e2 : (n.1 : Rat) = fr n * n.2 := by unfold fr; grind
    have c : m.1 * n.2 < n.1 * m.2 ↔ (m.1 : Rat) * n.2 < (n.1 : Rat) * m.2 := by
      constructor
      · intro h; exact_mod_cast h
      · intro h; exact_mod_cast h
    rw [c, e1, e2]
    have p := Rat.mul_pos qm qn
    constructor
    · intro h
      apply Classical.byContradiction; intro hh
      have := Rat.mul_le_mul_of_nonneg_left (a := fr n) (b := fr m) (c := (m.2 : Rat) * n.2) (by grind) (by grind)
      grind
    · intro h
      have := Rat.mul_pos p (show (0 : Rat) < fr n - fr m by grind)
      grind
  rw [← key]; clear key; unfold cmpF
  split
  · constructor <;> intro <;> omega
  · split <;> constructor <;> intro <;> omega
theorem cmpF_swap (a b c d : Int) : cmpF c d a b = - cmpF a b c d := by
  unfold cmpF; split <;> split <;> (try split) <;> omega
theorem cmpF_pos {m n : Fr} (hm : 0 < m.2) (hn : 0 < n.2) : 0 < cmpF m.1 m.2 n.1 n.2 ↔ fr n < fr m := by
  rw [← cmpF_neg hn hm, cmpF_swap]; omega

def leaves (g h : H3) : Bool := decide (0 < g.c * sizeH h + h.c * sizeH g)

def crossI (h g : H3) : Int × Int × Int :=
  if cross h g < 0 then (-(h.c * g.b - g.c * h.b), -(h.a * g.c - g.a * h.c), -cross h g) else (h.c * g.b - g.c * h.b, h.a * g.c - g.a * h.c, cross h g)
def markI (h g : H3) : Fr := (h.a * (crossI h g).2.1 - h.b * (crossI h g).1, (crossI h g).2.2)

theorem crossI_pos {h g : H3} (k : cross h g ≠ 0) : 0 < (crossI h g).2.2 := by
  unfold crossI; split <;> simp only <;> omega
theorem markI_fr {h g : H3} (k : cross h g ≠ 0) : fr (markI h g) = crossT h g := by
  have kq : (cross h g : Rat) ≠ 0 := by exact_mod_cast k
  unfold fr markI crossT crossI
  rw [nrmQ, dotQ]
  split
  · push_cast; grind
  · push_cast; grind

def upd (later : Bool) (m : Option Fr) (n : Fr) : Option Fr :=
  match m with
  | none => some n
  | some o => if (later && decide (cmpF n.1 n.2 o.1 o.2 ≤ 0)) || (!later && decide (0 ≤ cmpF n.1 n.2 o.1 o.2)) then some o else some n

def IsMin (S : Rat → Prop) : Option Fr → Prop
  | none => ∀ r, ¬ S r
  | some m => 0 < m.2 ∧ S (fr m) ∧ ∀ r, S r → fr m ≤ r
def IsMax (S : Rat → Prop) : Option Fr → Prop
  | none => ∀ r, ¬ S r
  | some m => 0 < m.2 ∧ S (fr m) ∧ ∀ r, S r → r ≤ fr m

theorem upd_min {S : Rat → Prop} {t : Option Fr} {n : Fr} (h : IsMin S t) (hn : 0 < n.2) : IsMin (fun r => S r ∨ r = fr n) (upd false t n) := by
  cases t with
  | none => exact ⟨hn, .inr rfl, fun r hr => by rcases hr with hr | rfl; exact absurd hr (h r); exact Rat.le_refl⟩
  | some o =>
    obtain ⟨h1, h2, h3⟩ := h
    unfold upd
    simp only [Bool.false_and, Bool.false_or, Bool.not_false, Bool.true_and, decide_eq_true_eq]
    split
    · rename_i hc
      have hle : fr o ≤ fr n := by
        have := cmpF_neg hn h1
        apply Classical.byContradiction; intro hh
        have := this.2 (by grind)
        omega
      exact ⟨h1, .inl h2, fun r hr => by rcases hr with hr | rfl; exact h3 r hr; exact hle⟩
    · rename_i hc
      have hlt : fr n < fr o := (cmpF_neg hn h1).1 (by omega)
      exact ⟨hn, .inr rfl, fun r hr => by
        rcases hr with hr | rfl
        · have := h3 r hr; grind
        · exact Rat.le_refl⟩
theorem upd_max {S : Rat → Prop} {t : Option Fr} {n : Fr} (h : IsMax S t) (hn : 0 < n.2) : IsMax (fun r => S r ∨ r = fr n) (upd true t n) := by
  cases t with
  | none => exact ⟨hn, .inr rfl, fun r hr => by rcases hr with hr | rfl; exact absurd hr (h r); exact Rat.le_refl⟩
  | some o =>
    obtain ⟨h1, h2, h3⟩ := h
    unfold upd
    simp only [Bool.true_and, Bool.not_true, Bool.false_and, Bool.or_false, decide_eq_true_eq]
    split
    · rename_i hc
      have hle : fr n ≤ fr o := by
        have := cmpF_pos hn h1
        apply Classical.byContradiction; intro hh
        have := this.2 (by grind)
        omega
      exact ⟨h1, .inl h2, fun r hr => by rcases hr with hr | rfl; exact h3 r hr; exact hle⟩
    · rename_i hc
      have hlt : fr o < fr n := (cmpF_pos hn h1).1 (by omega)
      exact ⟨hn, .inr rfl, fun r hr => by
        rcases hr with hr | rfl
        · have := h3 r hr; grind
        · exact Rat.le_refl⟩
theorem IsMin.congr {S T : Rat → Prop} {t : Option Fr} (h : IsMin S t) (e : ∀ r, S r ↔ T r) : IsMin T t := by
  cases t with
  | none => exact fun r hr => h r ((e r).2 hr)
  | some m => exact ⟨h.1, (e _).1 h.2.1, fun r hr => h.2.2 r ((e r).2 hr)⟩
theorem IsMax.congr {S T : Rat → Prop} {t : Option Fr} (h : IsMax S t) (e : ∀ r, S r ↔ T r) : IsMax T t := by
  cases t with
  | none => exact fun r hr => h r ((e r).2 hr)
  | some m => exact ⟨h.1, (e _).1 h.2.1, fun r hr => h.2.2 r ((e r).2 hr)⟩

/-- One half plane more, in the program's test of an edge; none: there is no room. -/
def stepS (h : H3) (st : Option (Option Fr × Option Fr)) (g : H3) : Option (Option Fr × Option Fr) :=
  match st with
  | none => none
  | some (f, t) => if cross h g = 0 then (if leaves g h then some (f, t) else none) else if 0 < cross h g then some (f, upd false t (markI h g)) else some (upd true f (markI h g), t)
def scanS (h : H3) (l : List H3) : Option (Option Fr × Option Fr) := l.foldl (stepS h) (some (none, none))

def Inv (h : H3) (l : List H3) : Option (Option Fr × Option Fr) → Prop
  | none => ∃ g ∈ l, cross h g = 0 ∧ leaves g h = false
  | some (f, t) => (∀ g ∈ l, cross h g = 0 → leaves g h = true) ∧ IsMax (fun r => ∃ g ∈ l, cross h g < 0 ∧ r = crossT h g) f ∧ IsMin (fun r => ∃ g ∈ l, 0 < cross h g ∧ r = crossT h g) t

theorem inv_step {h : H3} {l : List H3} {st : Option (Option Fr × Option Fr)} (i : Inv h l st) (g : H3) : Inv h (l ++ [g]) (stepS h st g) := by
  cases st with
  | none =>
    obtain ⟨x, hx, e⟩ := i
    exact ⟨x, List.mem_append_left _ hx, e⟩
  | some s =>
    obtain ⟨f, t⟩ := s
    obtain ⟨i1, i2, i3⟩ := i
    unfold stepS
    simp only
    split
    · rename_i k
      split
      · rename_i hl
        refine ⟨fun x hx hk => ?_, i2.congr fun r => ?_, i3.congr fun r => ?_⟩
        · rcases List.mem_append.1 hx with hx | hx
          · exact i1 x hx hk
          · rw [List.mem_singleton.1 hx]; exact hl
        · constructor
          · rintro ⟨x, hx, e⟩; exact ⟨x, List.mem_append_left _ hx, e⟩
          · rintro ⟨x, hx, e⟩
            rcases List.mem_append.1 hx with hx | hx
            · exact ⟨x, hx, e⟩
            · rw [List.mem_singleton.1 hx] at e; omega
        · constructor
          · rintro ⟨x, hx, e⟩; exact ⟨x, List.mem_append_left _ hx, e⟩
          · rintro ⟨x, hx, e⟩
            rcases List.mem_append.1 hx with hx | hx
            · exact ⟨x, hx, e⟩
            · rw [List.mem_singleton.1 hx] at e; omega
      · rename_i hl
        exact ⟨g, by simp, k, by simpa using hl⟩
    · rename_i k
      have par : ∀ x ∈ l ++ [g], cross h x = 0 → leaves x h = true := fun x hx hk => by
        rcases List.mem_append.1 hx with hx | hx
        · exact i1 x hx hk
        · rw [List.mem_singleton.1 hx] at hk; exact absurd hk k
      have mp : 0 < (markI h g).2 := crossI_pos k
      split
      · rename_i kp
        refine ⟨par, i2.congr fun r => ?_, (upd_min i3 mp).congr fun r => ?_⟩
        · constructor
          · rintro ⟨x, hx, e⟩; exact ⟨x, List.mem_append_left _ hx, e⟩
          · rintro ⟨x, hx, e⟩
            rcases List.mem_append.1 hx with hx | hx
            · exact ⟨x, hx, e⟩
            · rw [List.mem_singleton.1 hx] at e; omega
        · rw [markI_fr k]
          constructor
          · rintro (⟨x, hx, e⟩ | rfl)
            · exact ⟨x, List.mem_append_left _ hx, e⟩
            · exact ⟨g, by simp, kp, rfl⟩
          · rintro ⟨x, hx, e⟩
            rcases List.mem_append.1 hx with hx | hx
            · exact .inl ⟨x, hx, e⟩
            · rw [List.mem_singleton.1 hx] at e; exact .inr e.2
      · rename_i kp
        refine ⟨par, (upd_max i2 mp).congr fun r => ?_, i3.congr fun r => ?_⟩
        · rw [markI_fr k]
          constructor
          · rintro (⟨x, hx, e⟩ | rfl)
            · exact ⟨x, List.mem_append_left _ hx, e⟩
            · exact ⟨g, by simp, by omega, rfl⟩
          · rintro ⟨x, hx, e⟩
            rcases List.mem_append.1 hx with hx | hx
            · exact .inl ⟨x, hx, e⟩
            · rw [List.mem_singleton.1 hx] at e; exact .inr e.2
        · constructor
          · rintro ⟨x, hx, e⟩; exact ⟨x, List.mem_append_left _ hx, e⟩
          · rintro ⟨x, hx, e⟩
            rcases List.mem_append.1 hx with hx | hx
            · exact ⟨x, hx, e⟩
            · rw [List.mem_singleton.1 hx] at e; omega

theorem inv_fold {h : H3} : ∀ (r l : List H3) (st : Option (Option Fr × Option Fr)), Inv h l st → Inv h (l ++ r) (r.foldl (stepS h) st) := by
  intro r
  induction r with
  | nil => intro l st i; simpa using i
  | cons g r ih =>
    intro l st i
    have := ih (l ++ [g]) (stepS h st g) (inv_step i g)
    simpa using this
theorem inv_scan (h : H3) (l : List H3) : Inv h l (scanS h l) := by
  have := inv_fold l [] (some (none, none)) (h := h) ⟨fun x hx => (by cases hx), fun r hr => (by obtain ⟨x, hx, _⟩ := hr; cases hx), fun r hr => (by obtain ⟨x, hx, _⟩ := hr; cases hx)⟩
  simpa [scanS] using this

/-! ### Parallel borders that face each other -/
theorem opp_prop {h g : H3} (nh : NZ h) (ng : NZ g) (k : cross h g = 0) (d : sameDir h g = false) : g.a * sizeH h = -h.a * sizeH g ∧ g.b * sizeH h = -h.b * sizeH g := by
  have nn : NZ (negH h) := by unfold NZ negH at *; simp only; omega
  have u : upB (negH h) = upB g := by
    rw [upB_neg nh]
    rw [Bool.eq_false_iff, Ne, sameDir_iff] at d
    cases e1 : upB h <;> cases e2 : upB g <;> simp_all
  have s : sameDir (negH h) g = true := by
    rw [sameDir_iff]
    refine ⟨?_, u⟩
    unfold cross negH; unfold cross at k; simp only; grind
  have sz : sizeH (negH h) = sizeH h := by
    unfold sizeH negH; simp only
    by_cases e : h.a = 0
    · simp [e]; omega
    · have : -h.a ≠ 0 := by omega
      rw [if_pos e, if_pos this]; omega
  obtain ⟨e1, e2⟩ := prop_of_sameDir nn ng s
  rw [sz] at e1 e2
  exact ⟨e1.symm, e2.symm⟩
theorem opp_in {h g : H3} (nh : NZ h) (ng : NZ g) (k : cross h g = 0) (d : sameDir h g = false) {p : Pt} (o : On h p) : In g p ↔ 0 ≤ g.c * sizeH h + h.c * sizeH g := by
  obtain ⟨e1, e2⟩ := opp_prop nh ng k d
  have q1 : (g.a : Rat) * (sizeH h : Rat) = -(h.a : Rat) * (sizeH g : Rat) := by exact_mod_cast e1
  have q2 : (g.b : Rat) * (sizeH h : Rat) = -(h.b : Rat) * (sizeH g : Rat) := by exact_mod_cast e2
  have sp : (0 : Rat) < (sizeH h : Rat) := by exact_mod_cast size_pos nh
  have ev : val g p * (sizeH h : Rat) = -(h.c : Rat) * sizeH g := by unfold On val at o; unfold val; grind
  have c : 0 ≤ g.c * sizeH h + h.c * sizeH g ↔ (0 : Rat) ≤ (g.c : Rat) * sizeH h + (h.c : Rat) * sizeH g := by
    constructor
    · intro x; exact_mod_cast x
    · intro x; exact_mod_cast x
  rw [c]; unfold In
  constructor
  · intro hi
    have := Rat.mul_le_mul_of_nonneg_left (c := (sizeH h : Rat)) hi (by grind)
    grind
  · intro hi
    apply Classical.byContradiction; intro hn
    have := Rat.mul_pos sp (show (0 : Rat) < val g p - g.c by grind)
    grind

/-! ### The test of an edge -/
section
variable {L : List H3} {h : H3} {rest : List H3}
/-- rest: the others. -/
structure Others (L : List H3) (h : H3) (rest : List H3) : Prop where
  mem : ∀ g, g ∈ L ↔ g = h ∨ g ∈ rest
  dir : ∀ g ∈ rest, sameDir h g = false
  nz : ∀ g ∈ L, NZ g

theorem Others.nh (o : Others L h rest) : NZ h := o.nz h ((o.mem h).2 (.inl rfl))
theorem Others.ng (o : Others L h rest) {g : H3} (hg : g ∈ rest) : NZ g := o.nz g ((o.mem g).2 (.inr hg))

theorem inside_iff (o : Others L h rest) {p : Pt} (op : On h p) : Inside L p ↔ (∀ g ∈ rest, cross h g = 0 → 0 ≤ g.c * sizeH h + h.c * sizeH g) ∧ (∀ g ∈ rest, 0 < cross h g → prm h p ≤ crossT h g) ∧ (∀ g ∈ rest, cross h g < 0 → crossT h g ≤ prm h p) := by
  constructor
  · intro hi
    refine ⟨fun g hg k => (opp_in o.nh (o.ng hg) k (o.dir g hg) op).1 (hi g ((o.mem g).2 (.inr hg))), fun g hg k => (in_iff_pos o.nh k op).1 (hi g ((o.mem g).2 (.inr hg))), fun g hg k => (in_iff_neg o.nh k op).1 (hi g ((o.mem g).2 (.inr hg)))⟩
  · rintro ⟨h1, h2, h3⟩ g hg
    rcases (o.mem g).1 hg with rfl | hg
    · exact op.in
    · rcases Int.lt_trichotomy (cross h g) 0 with k | k | k
      · exact (in_iff_neg o.nh k op).2 (h3 g hg k)
      · exact (opp_in o.nh (o.ng hg) k (o.dir g hg) op).2 (h1 g hg k)
      · exact (in_iff_pos o.nh k op).2 (h2 g hg k)

theorem edge_iff (o : Others L h rest) {f t : Fr} (hf : IsMax (fun r => ∃ g ∈ rest, cross h g < 0 ∧ r = crossT h g) (some f)) (ht : IsMin (fun r => ∃ g ∈ rest, 0 < cross h g ∧ r = crossT h g) (some t)) :
    Edge L h ↔ fr f < fr t ∧ ∀ g ∈ rest, cross h g = 0 → 0 ≤ g.c * sizeH h + h.c * sizeH g := by
  obtain ⟨_, ⟨gf, gf1, gf2, gf3⟩, f3⟩ := hf
  obtain ⟨_, ⟨gt, gt1, gt2, gt3⟩, t3⟩ := ht
  constructor
  · rintro ⟨p, q, op, oq, hlt, ip, iq⟩
    obtain ⟨a1, a2, a3⟩ := (inside_iff o op).1 ip
    obtain ⟨b1, b2, b3⟩ := (inside_iff o oq).1 iq
    refine ⟨?_, a1⟩
    have := a3 gf gf1 gf2
    have := b2 gt gt1 gt2
    grind
  · rintro ⟨hlt, hpar⟩
    refine ⟨ptAt h (fr f), ptAt h (fr t), ptAt_on o.nh _, ptAt_on o.nh _, by rw [ptAt_prm o.nh, ptAt_prm o.nh]; exact hlt, ?_, ?_⟩
    · rw [inside_iff o (ptAt_on o.nh _), ptAt_prm o.nh]
      exact ⟨hpar, fun g hg k => by have := t3 _ ⟨g, hg, k, rfl⟩; grind, fun g hg k => f3 _ ⟨g, hg, k, rfl⟩⟩
    · rw [inside_iff o (ptAt_on o.nh _), ptAt_prm o.nh]
      exact ⟨hpar, fun g hg k => t3 _ ⟨g, hg, k, rfl⟩, fun g hg k => by have := f3 _ ⟨g, hg, k, rfl⟩; grind⟩

/-- The border of h is bounded on both sides. -/
def Both (h : H3) (rest : List H3) : Prop := (∃ g ∈ rest, cross h g < 0) ∧ ∃ g ∈ rest, 0 < cross h g

theorem edge_scan (o : Others L h rest) (b : Both h rest) :
    (scanS h rest = none ∧ ∃ g ∈ rest, cross h g = 0 ∧ leaves g h = false) ∨ ∃ f t, scanS h rest = some (some f, some t) ∧ (∀ g ∈ rest, cross h g = 0 → leaves g h = true) ∧ 0 < f.2 ∧ 0 < t.2 ∧ (Edge L h ↔ cmpF f.1 f.2 t.1 t.2 < 0) := by
  have i := inv_scan h rest
  generalize scanS h rest = st at i
  match st, i with
  | none, i => exact .inl ⟨rfl, i⟩
  | some (none, _), i => obtain ⟨⟨g, hg, k⟩, _⟩ := b; exact absurd ⟨g, hg, k, rfl⟩ (i.2.1 (crossT h g))
  | some (some f, none), i => obtain ⟨_, g, hg, k⟩ := b; exact absurd ⟨g, hg, k, rfl⟩ (i.2.2 (crossT h g))
  | some (some f, some t), i =>
    refine .inr ⟨f, t, rfl, i.1, i.2.1.1, i.2.2.1, ?_⟩
    rw [edge_iff o i.2.1 i.2.2, cmpF_neg i.2.1.1 i.2.2.1]
    refine ⟨fun x => x.1, fun x => ⟨x, fun g hg k => ?_⟩⟩
    have := i.1 g hg k
    unfold leaves at this
    simp at this; omega
end
end Go.Proofs.YtabmfaamadbefaaGreat
namespace Go.Proofs.YtabmfaamadbefaaGreat
abbrev P3 := Int × Int × Int
def ptOf (p : P3) : Pt := ⟨(p.1 : Rat) / (p.2.2 : Rat), (p.2.1 : Rat) / (p.2.2 : Rat)⟩

def spotOk (x y d : Int) : Bool := inR d 1 5000000000 && inR x (-1000 * d) (1000 * d) && inR y (-1000 * d) (1000 * d) && decide (gcdL [x, y, d] = 1)
/-- SpotOf: its value, and whether there is one. -/
def spotOf (x y d : Int) : P3 × Bool :=
  if d ≤ 0 ∨ x = -9223372036854775808 ∨ y = -9223372036854775808 then ((0, 0, 0), false)
  else if spotOk (x / (gcdL [x, y, d] : Int)) (y / (gcdL [x, y, d] : Int)) (d / (gcdL [x, y, d] : Int)) then ((x / (gcdL [x, y, d] : Int), y / (gcdL [x, y, d] : Int), d / (gcdL [x, y, d] : Int)), true)
  else ((0, 0, 0), false)

def inFrameI (p : P3) : Prop := -1000 * p.2.2 ≤ p.1 ∧ p.1 ≤ 1000 * p.2.2 ∧ -1000 * p.2.2 ≤ p.2.1 ∧ p.2.1 ≤ 1000 * p.2.2

theorem gcdL3_dvd (x y d : Int) : (gcdL [x, y, d] : Int) ∣ x ∧ (gcdL [x, y, d] : Int) ∣ y ∧ (gcdL [x, y, d] : Int) ∣ d := by
  rw [gcdL3]
  have h1 : Nat.gcd (Nat.gcd x.natAbs y.natAbs) d.natAbs ∣ x.natAbs := Nat.dvd_trans (Nat.gcd_dvd_left _ _) (Nat.gcd_dvd_left _ _)
  have h2 : Nat.gcd (Nat.gcd x.natAbs y.natAbs) d.natAbs ∣ y.natAbs := Nat.dvd_trans (Nat.gcd_dvd_left _ _) (Nat.gcd_dvd_right _ _)
  have h3 : Nat.gcd (Nat.gcd x.natAbs y.natAbs) d.natAbs ∣ d.natAbs := Nat.gcd_dvd_right _ _
  exact ⟨Int.natAbs_dvd_natAbs.1 (by simpa using h1), Int.natAbs_dvd_natAbs.1 (by simpa using h2), Int.natAbs_dvd_natAbs.1 (by simpa using h3)⟩
theorem gcdL3_pos {x y d : Int} (hd : d ≠ 0) : 0 < gcdL [x, y, d] := by
  rw [gcdL3]; exact Nat.gcd_pos_of_pos_right _ (by omega)

/-- The parts in lowest terms. -/
theorem reduced {x y d : Int} (hd : 0 < d) : ∃ (g : Nat) (a b c : Int), gcdL [x, y, d] = g ∧ 0 < g ∧ x = a * g ∧ y = b * g ∧ d = c * g ∧ x / (g : Int) = a ∧ y / (g : Int) = b ∧ d / (g : Int) = c ∧ gcdL [a, b, c] = 1 ∧ 0 < c := by
  obtain ⟨h1, h2, h3⟩ := gcdL3_dvd x y d
  have hg := gcdL3_pos (x := x) (y := y) (d := d) (by omega)
  generalize hgg : gcdL [x, y, d] = g at *
  obtain ⟨a, ea⟩ := h1
  obtain ⟨b, eb⟩ := h2
  obtain ⟨c, ec⟩ := h3
  have gz : (g : Int) ≠ 0 := by omega
  have dv : ∀ z : Int, (g : Int) * z / (g : Int) = z := fun z => Int.mul_ediv_cancel_left z gz
  refine ⟨g, a, b, c, rfl, hg, by rw [ea, Int.mul_comm], by rw [eb, Int.mul_comm], by rw [ec, Int.mul_comm], by rw [ea, dv], by rw [eb, dv], by rw [ec, dv], ?_, ?_⟩
  · have e := gcdL3_mul g a b c
    rw [Int.mul_comm a, Int.mul_comm b, Int.mul_comm c, ← ea, ← eb, ← ec, hgg] at e
    simp only [Int.natAbs_natCast] at e
    have : (1 : Nat) * g = gcdL [a, b, c] * g := by omega
    exact (Nat.eq_of_mul_eq_mul_right hg this).symm
  · apply Classical.byContradiction; intro hn
    have := Int.mul_nonpos_of_nonneg_of_nonpos (a := (g : Int)) (b := c) (by omega) (by omega)
    omega

theorem spotOf_frame {p : P3} (hd : 0 < p.2.2) (hb : p.2.2 ≤ 5000000000) (hf : inFrameI p) :
    ∃ (g : Nat) (a b c : Int), 0 < g ∧ p = (a * g, b * g, c * g) ∧ spotOf p.1 p.2.1 p.2.2 = ((a, b, c), true) ∧ gcdL [a, b, c] = 1 ∧ 0 < c ∧ spotOk a b c = true := by
  obtain ⟨x, y, d⟩ := p
  simp only at hd hb
  obtain ⟨h1, h2, h3, h4⟩ := hf
  simp only at h1 h2 h3 h4
  obtain ⟨g, a, b, c, hg, g0, ex, ey, ed, dx, dy, dd, hp, hc⟩ := reduced (x := x) (y := y) hd
  have gq : (0 : Int) < g := by omega
  have le : ∀ s t : Int, s * g ≤ t * g → s ≤ t := fun s t h => Int.le_of_mul_le_mul_right h gq
  have cb : c ≤ 5000000000 := by
    have : c * 1 ≤ c * g := Int.mul_le_mul_of_nonneg_left (by omega) (by omega)
    omega
  have ok : spotOk a b c = true := by
    simp only [spotOk, inR, Bool.and_eq_true, decide_eq_true_eq]
    refine ⟨⟨⟨⟨by omega, cb⟩, ⟨le _ _ (by rw [← ex, Int.mul_assoc, ← ed]; exact h1), le _ _ (by rw [← ex, Int.mul_assoc, ← ed]; exact h2)⟩⟩, ⟨le _ _ (by rw [← ey, Int.mul_assoc, ← ed]; exact h3), le _ _ (by rw [← ey, Int.mul_assoc, ← ed]; exact h4)⟩⟩, hp⟩
  refine ⟨g, a, b, c, g0, by rw [ex, ey, ed], ?_, hp, hc, ok⟩
  simp only
  unfold spotOf
  rw [if_neg (by omega), hg, dx, dy, dd, if_pos ok]

theorem spotOf_eq_iff {p q : P3} (hp : 0 < p.2.2) (hpb : p.2.2 ≤ 5000000000) (hpf : inFrameI p) (hq : 0 < q.2.2) (hqb : q.2.2 ≤ 5000000000) (hqf : inFrameI q) :
    (spotOf p.1 p.2.1 p.2.2).1 = (spotOf q.1 q.2.1 q.2.2).1 ↔ ptOf p = ptOf q := by
  obtain ⟨g, a, b, c, g0, ep, sp, pp, cp, _⟩ := spotOf_frame hp hpb hpf
  obtain ⟨g', a', b', c', g0', eq, sq, pq, cq, _⟩ := spotOf_frame hq hqb hqf
  rw [sp, sq]
  have gq : (g : Rat) ≠ 0 := by have : (0 : Rat) < (g : Rat) := by exact_mod_cast g0
                                grind
  have gq' : (g' : Rat) ≠ 0 := by have : (0 : Rat) < (g' : Rat) := by exact_mod_cast g0'
                                  grind
  have c0 : (c : Rat) ≠ 0 := by have : (0 : Rat) < (c : Rat) := by exact_mod_cast cp
                                grind
  have c0' : (c' : Rat) ≠ 0 := by have : (0 : Rat) < (c' : Rat) := by exact_mod_cast cq
                                  grind
  have e1 : ptOf p = ⟨(a : Rat) / c, (b : Rat) / c⟩ := by
    rw [ep]; unfold ptOf; simp only [Pt.mk.injEq]; push_cast; constructor <;> grind
  have e2 : ptOf q = ⟨(a' : Rat) / c', (b' : Rat) / c'⟩ := by
    rw [eq]; unfold ptOf; simp only [Pt.mk.injEq]; push_cast; constructor <;> grind
  rw [e1, e2]
  simp only [Prod.mk.injEq, Pt.mk.injEq]
  constructor
  · rintro ⟨rfl, rfl, rfl⟩; exact ⟨rfl, rfl⟩
  · rintro ⟨h1, h2⟩
    have k1 : (a : Rat) * c' = a' * c := by grind
    have k2 : (b : Rat) * c' = b' * c := by grind
    have i1 : a * c' = a' * c := by exact_mod_cast k1
    have i2 : b * c' = b' * c := by exact_mod_cast k2
    have := prim_unique (g := ⟨a, b, c⟩) (h := ⟨a', b', c'⟩) c' c cq cp pp pq i1 i2 (Int.mul_comm _ _)
    simpa using this

def insideI (L : List H3) (p : P3) : Bool :=
  !(decide (p.2.2 = 0) || decide (1000 * p.2.2 < p.1) || decide (p.1 < -1000 * p.2.2) || decide (1000 * p.2.2 < p.2.1) || decide (p.2.1 < -1000 * p.2.2)) && L.all fun g => decide (g.a * p.1 + g.b * p.2.1 ≤ g.c * p.2.2)

theorem insideI_iff (L : List H3) (p : P3) : insideI L p = true ↔ p.2.2 ≠ 0 ∧ inFrameI p ∧ ∀ g ∈ L, g.a * p.1 + g.b * p.2.1 ≤ g.c * p.2.2 := by
  unfold insideI inFrameI
  simp only [Bool.and_eq_true, Bool.not_eq_true', Bool.or_eq_false_iff, decide_eq_false_iff_not, List.all_eq_true, decide_eq_true_eq]
  constructor
  · rintro ⟨⟨⟨⟨⟨h1, h2⟩, h3⟩, h4⟩, h5⟩, h6⟩; exact ⟨h1, ⟨by omega, by omega, by omega, by omega⟩, h6⟩
  · rintro ⟨h1, ⟨h2, h3, h4, h5⟩, h6⟩; exact ⟨⟨⟨⟨⟨h1, by omega⟩, by omega⟩, by omega⟩, by omega⟩, h6⟩

theorem in_ptOf (g : H3) {p : P3} (hd : 0 < p.2.2) : In g (ptOf p) ↔ g.a * p.1 + g.b * p.2.1 ≤ g.c * p.2.2 := by
  have dq : (0 : Rat) < (p.2.2 : Rat) := by exact_mod_cast hd
  have c : g.a * p.1 + g.b * p.2.1 ≤ g.c * p.2.2 ↔ (g.a : Rat) * p.1 + (g.b : Rat) * p.2.1 ≤ (g.c : Rat) * p.2.2 := by
    constructor <;> intro h <;> exact_mod_cast h
  have e : val g (ptOf p) * p.2.2 = (g.a : Rat) * p.1 + (g.b : Rat) * p.2.1 := by unfold val ptOf; grind
  rw [c, ← e]; unfold In
  constructor
  · intro h
    have := Rat.mul_le_mul_of_nonneg_left (c := (p.2.2 : Rat)) h (by grind)
    grind
  · intro h
    apply Classical.byContradiction; intro hn
    have := Rat.mul_pos dq (show (0 : Rat) < val g (ptOf p) - g.c by grind)
    grind

theorem cross_on {h g : H3} (k : cross h g ≠ 0) : On h (ptOf (crossI h g)) ∧ prm h (ptOf (crossI h g)) = crossT h g := by
  have kq : (cross h g : Rat) ≠ 0 := by exact_mod_cast k
  have dp := crossI_pos k
  have dq : ((crossI h g).2.2 : Rat) ≠ 0 := by have : (0 : Rat) < ((crossI h g).2.2 : Rat) := by exact_mod_cast dp
                                               grind
  constructor
  · have e : h.a * (crossI h g).1 + h.b * (crossI h g).2.1 = h.c * (crossI h g).2.2 := by
      unfold crossI; split <;> simp only [cross] <;> grind
    have eq : (h.a : Rat) * (crossI h g).1 + (h.b : Rat) * (crossI h g).2.1 = (h.c : Rat) * (crossI h g).2.2 := by exact_mod_cast e
    unfold On val ptOf; simp only; grind
  · rw [← markI_fr k]; unfold prm ptOf fr markI; push_cast; grind

/-- Valid half planes. -/
structure HOk (h : H3) : Prop where
  ba : -50000 ≤ h.a ∧ h.a ≤ 50000
  bb : -50000 ≤ h.b ∧ h.b ≤ 50000
  bc : -100000000 ≤ h.c ∧ h.c ≤ 100000000
  nz : NZ h
  prim : Prim h

theorem mul_bd {x y A B : Int} (hx : -A ≤ x ∧ x ≤ A) (hy : -B ≤ y ∧ y ≤ B) : -(A * B) ≤ x * y ∧ x * y ≤ A * B := by
  have a0 : 0 ≤ A := by omega
  have b0 : 0 ≤ B := by omega
  have h1 : 0 ≤ (A - x) * (B + y) := Int.mul_nonneg (by omega) (by omega)
  have h2 : 0 ≤ (A + x) * (B - y) := Int.mul_nonneg (by omega) (by omega)
  have h3 : 0 ≤ (A - x) * (B - y) := Int.mul_nonneg (by omega) (by omega)
  have h4 : 0 ≤ (A + x) * (B + y) := Int.mul_nonneg (by omega) (by omega)
  constructor <;> grind
theorem cross_bd {g h : H3} (hg : HOk g) (hh : HOk h) : -5000000000 ≤ cross g h ∧ cross g h ≤ 5000000000 := by
  have := mul_bd hg.ba hh.bb
  have := mul_bd hg.bb hh.ba
  unfold cross; omega
theorem crossI_bd {h g : H3} (hh : HOk h) (hg : HOk g) : (crossI h g).2.2 ≤ 5000000000 := by
  have := cross_bd hh hg
  unfold crossI; split <;> simp only <;> omega

/-- One half plane more, in the reference's test of an edge. -/
def stepE (L : List H3) (h : H3) (st : Option P3 × Bool) (g : H3) : Option P3 × Bool :=
  if st.2 then st
  else if insideI L (crossI h g) then
    match st.1 with
    | none => (some (crossI h g), false)
    | some q => (some q, decide ((spotOf q.1 q.2.1 q.2.2).1 ≠ (spotOf (crossI h g).1 (crossI h g).2.1 (crossI h g).2.2).1))
  else st
def scanE (L : List H3) (h : H3) (l : List H3) : Option P3 × Bool := l.foldl (stepE L h) (none, false)

def sp (p : P3) : P3 := (spotOf p.1 p.2.1 p.2.2).1

def InvE (L : List H3) (h : H3) (l : List H3) : Option P3 × Bool → Prop
  | (none, false) => ∀ g ∈ l, insideI L (crossI h g) = false
  | (some q, false) => (∃ g ∈ l, insideI L (crossI h g) = true ∧ q = crossI h g) ∧ ∀ g ∈ l, insideI L (crossI h g) = true → sp (crossI h g) = sp q
  | (_, true) => ∃ g ∈ l, ∃ g' ∈ l, insideI L (crossI h g) = true ∧ insideI L (crossI h g') = true ∧ sp (crossI h g) ≠ sp (crossI h g')

theorem invE_step {L : List H3} {h : H3} {l : List H3} {st : Option P3 × Bool} (i : InvE L h l st) (g : H3) : InvE L h (l ++ [g]) (stepE L h st g) := by
  unfold stepE
  match st, i with
  | (o, true), i =>
    simp only [if_true]
    have i' : ∃ g ∈ l, ∃ g' ∈ l, insideI L (crossI h g) = true ∧ insideI L (crossI h g') = true ∧ sp (crossI h g) ≠ sp (crossI h g') := by cases o <;> exact i
    obtain ⟨x, hx, y, hy, e⟩ := i'
    have r : ∃ g' ∈ l ++ [g], ∃ g'' ∈ l ++ [g], insideI L (crossI h g') = true ∧ insideI L (crossI h g'') = true ∧ sp (crossI h g') ≠ sp (crossI h g'') := ⟨x, List.mem_append_left _ hx, y, List.mem_append_left _ hy, e⟩
    cases o <;> exact r
  | (none, false), i =>
    have i' : ∀ g ∈ l, insideI L (crossI h g) = false := i
    simp only [Bool.false_eq_true, if_false]
    split
    · rename_i hi
      refine ⟨⟨g, by simp, hi, rfl⟩, fun x hx hxi => ?_⟩
      rcases List.mem_append.1 hx with hx | hx
      · rw [i' x hx] at hxi; cases hxi
      · rw [List.mem_singleton.1 hx]
    · rename_i hi
      show ∀ x ∈ l ++ [g], insideI L (crossI h x) = false
      intro x hx
      rcases List.mem_append.1 hx with hx | hx
      · exact i' x hx
      · rw [List.mem_singleton.1 hx]; simpa using hi
  | (some q, false), i =>
    obtain ⟨⟨x, hx, hxi, eq⟩, i2⟩ := i
    simp only [Bool.false_eq_true, if_false]
    split
    · rename_i hi
      by_cases hd : (spotOf q.1 q.2.1 q.2.2).1 ≠ (spotOf (crossI h g).1 (crossI h g).2.1 (crossI h g).2.2).1
      · rw [decide_eq_true hd]
        exact ⟨x, List.mem_append_left _ hx, g, by simp, hxi, hi, by rw [← eq]; exact hd⟩
      · rw [decide_eq_false hd]
        refine ⟨⟨x, List.mem_append_left _ hx, hxi, eq⟩, fun y hy hyi => ?_⟩
        rcases List.mem_append.1 hy with hy | hy
        · exact i2 y hy hyi
        · rw [List.mem_singleton.1 hy]; exact (Classical.not_not.1 hd).symm
    · rename_i hi
      refine ⟨⟨x, List.mem_append_left _ hx, hxi, eq⟩, fun y hy hyi => ?_⟩
      rcases List.mem_append.1 hy with hy | hy
      · exact i2 y hy hyi
      · rw [List.mem_singleton.1 hy] at hyi; exact absurd hyi hi
theorem invE_fold {L : List H3} {h : H3} : ∀ (r l : List H3) (st : Option P3 × Bool), InvE L h l st → InvE L h (l ++ r) (r.foldl (stepE L h) st) := by
  intro r
  induction r with
  | nil => intro l st i; simpa using i
  | cons g r ih =>
    intro l st i
    have := ih (l ++ [g]) (stepE L h st g) (invE_step i g)
    simpa using this
theorem invE_scan (L : List H3) (h : H3) (l : List H3) : InvE L h l (scanE L h l) := by
  have := invE_fold l [] (none, false) (L := L) (h := h) (fun x hx => by cases hx)
  simpa [scanE] using this

/-- All points of the list lie within the frame. -/
def Framed (L : List H3) : Prop := ∀ p, Inside L p → -1000 ≤ p.x ∧ p.x ≤ 1000 ∧ -1000 ≤ p.y ∧ p.y ≤ 1000

section
variable {L : List H3} {h : H3} {rest : List H3}
theorem insideI_cross {g : H3} (fr : Framed L) : insideI L (crossI h g) = true ↔ cross h g ≠ 0 ∧ Inside L (ptOf (crossI h g)) := by
  rw [insideI_iff]
  constructor
  · rintro ⟨h1, _, h3⟩
    have k : cross h g ≠ 0 := by
      intro k; apply h1; unfold crossI; rw [k]; simp
    exact ⟨k, fun x hx => (in_ptOf x (crossI_pos k)).2 (h3 x hx)⟩
  · rintro ⟨k, hi⟩
    have dp := crossI_pos k
    refine ⟨by omega, ?_, fun x hx => (in_ptOf x dp).1 (hi x hx)⟩
    obtain ⟨f1, f2, f3, f4⟩ := fr _ hi
    have b1 := (in_ptOf ⟨-1, 0, 1000⟩ (p := crossI h g) dp).1 (by unfold In val; push_cast; grind)
    have b2 := (in_ptOf ⟨1, 0, 1000⟩ (p := crossI h g) dp).1 (by unfold In val; push_cast; grind)
    have b3 := (in_ptOf ⟨0, -1, 1000⟩ (p := crossI h g) dp).1 (by unfold In val; push_cast; grind)
    have b4 := (in_ptOf ⟨0, 1, 1000⟩ (p := crossI h g) dp).1 (by unfold In val; push_cast; grind)
    simp only at b1 b2 b3 b4
    exact ⟨by omega, by omega, by omega, by omega⟩

theorem sp_differ (o : Others L h rest) (ok : ∀ g ∈ L, HOk g) (fr : Framed L) {g g' : H3} (hg : g ∈ rest) (hg' : g' ∈ rest) (i : insideI L (crossI h g) = true) (i' : insideI L (crossI h g') = true) :
    sp (crossI h g) = sp (crossI h g') ↔ crossT h g = crossT h g' := by
  have k := ((insideI_cross fr).1 i).1
  have k' := ((insideI_cross fr).1 i').1
  have hh : HOk h := ok h ((o.mem h).2 (.inl rfl))
  have e := spotOf_eq_iff (crossI_pos k) (crossI_bd hh (ok g ((o.mem g).2 (.inr hg)))) ((insideI_iff _ _).1 i).2.1 (crossI_pos k') (crossI_bd hh (ok g' ((o.mem g').2 (.inr hg')))) ((insideI_iff _ _).1 i').2.1
  unfold sp; rw [e]
  obtain ⟨o1, t1⟩ := cross_on k
  obtain ⟨o2, t2⟩ := cross_on k'
  rw [← t1, ← t2]
  constructor
  · intro x; rw [x]
  · intro x
    refine pt_eq o.nh ?_ x
    unfold On at o1 o2; rw [o1, o2]

theorem scanE_edge (o : Others L h rest) (b : Both h rest) (ok : ∀ g ∈ L, HOk g) (fr : Framed L) : (scanE L h rest).2 = true ↔ Edge L h := by
  -- the ends of the border, the parallel ones left out
  have i := inv_scan h (rest.filter fun g => decide (cross h g ≠ 0))
  have mf : ∀ g, g ∈ rest.filter (fun g => decide (cross h g ≠ 0)) ↔ g ∈ rest ∧ cross h g ≠ 0 := fun g => by simp
  have ends : ∃ f t, IsMax (fun r => ∃ g ∈ rest, cross h g < 0 ∧ r = crossT h g) (some f) ∧ IsMin (fun r => ∃ g ∈ rest, 0 < cross h g ∧ r = crossT h g) (some t) := by
    generalize scanS h (rest.filter fun g => decide (cross h g ≠ 0)) = st at i
    match st, i with
    | none, i =>
      obtain ⟨g, hg, k, _⟩ := i
      exact absurd k ((mf g).1 hg).2
    | some (f, t), i =>
      have i2 : IsMax (fun r => ∃ g ∈ rest, cross h g < 0 ∧ r = crossT h g) f := i.2.1.congr fun r => by
        constructor
        · rintro ⟨g, hg, e⟩; exact ⟨g, ((mf g).1 hg).1, e⟩
        · rintro ⟨g, hg, k, e⟩; exact ⟨g, (mf g).2 ⟨hg, by omega⟩, k, e⟩
      have i3 : IsMin (fun r => ∃ g ∈ rest, 0 < cross h g ∧ r = crossT h g) t := i.2.2.congr fun r => by
        constructor
        · rintro ⟨g, hg, e⟩; exact ⟨g, ((mf g).1 hg).1, e⟩
        · rintro ⟨g, hg, k, e⟩; exact ⟨g, (mf g).2 ⟨hg, by omega⟩, k, e⟩
      match f, t, i2, i3 with
      | none, _, i2, _ => obtain ⟨⟨g, hg, k⟩, _⟩ := b; exact absurd ⟨g, hg, k, rfl⟩ (i2 (crossT h g))
      | some f, none, _, i3 => obtain ⟨_, g, hg, k⟩ := b; exact absurd ⟨g, hg, k, rfl⟩ (i3 (crossT h g))
      | some f, some t, i2, i3 => exact ⟨f, t, i2, i3⟩
  obtain ⟨f, t, hf, ht⟩ := ends
  have ie := invE_scan L h rest
  constructor
  · intro ht2
    generalize scanE L h rest = st at ie ht2
    obtain ⟨q, v⟩ := st
    simp only at ht2; subst ht2
    have ie' : ∃ g ∈ rest, ∃ g' ∈ rest, insideI L (crossI h g) = true ∧ insideI L (crossI h g') = true ∧ sp (crossI h g) ≠ sp (crossI h g') := by cases q <;> exact ie
    obtain ⟨g, hg, g', hg', i1, i2, hne⟩ := ie'
    rw [Ne, sp_differ o ok fr hg hg' i1 i2] at hne
    obtain ⟨k1, s1⟩ := (insideI_cross fr).1 i1
    obtain ⟨k2, s2⟩ := (insideI_cross fr).1 i2
    obtain ⟨o1, t1⟩ := cross_on k1
    obtain ⟨o2, t2⟩ := cross_on k2
    by_cases hlt : crossT h g < crossT h g'
    · exact ⟨_, _, o1, o2, by rw [t1, t2]; exact hlt, s1, s2⟩
    · exact ⟨_, _, o2, o1, by rw [t1, t2]; grind, s2, s1⟩
  · intro he
    obtain ⟨hlt, hpar⟩ := (edge_iff o hf ht).1 he
    obtain ⟨_, ⟨gf, gf1, gf2, gf3⟩, f3⟩ := hf
    obtain ⟨_, ⟨gt, gt1, gt2, gt3⟩, t3⟩ := ht
    have kf : cross h gf ≠ 0 := by omega
    have kt : cross h gt ≠ 0 := by omega
    obtain ⟨of, tf⟩ := cross_on kf
    obtain ⟨ot, tt⟩ := cross_on kt
    have inf : insideI L (crossI h gf) = true := by
      refine (insideI_cross fr).2 ⟨kf, (inside_iff o of).2 ⟨hpar, fun g hg k => ?_, fun g hg k => ?_⟩⟩
      · rw [tf, ← gf3]; have := t3 _ ⟨g, hg, k, rfl⟩; grind
      · rw [tf, ← gf3]; exact f3 _ ⟨g, hg, k, rfl⟩
    have int : insideI L (crossI h gt) = true := by
      refine (insideI_cross fr).2 ⟨kt, (inside_iff o ot).2 ⟨hpar, fun g hg k => ?_, fun g hg k => ?_⟩⟩
      · rw [tt, ← gt3]; exact t3 _ ⟨g, hg, k, rfl⟩
      · rw [tt, ← gt3]; have := f3 _ ⟨g, hg, k, rfl⟩; grind
    have hne : sp (crossI h gf) ≠ sp (crossI h gt) := by
      rw [Ne, sp_differ o ok fr gf1 gt1 inf int, ← gf3, ← gt3]; grind
    generalize scanE L h rest = st at ie
    match st, ie with
    | (none, false), ie => have := ie gf gf1; rw [inf] at this; cases this
    | (some q, false), ie => exact absurd ((ie.2 gf gf1 inf).trans (ie.2 gt gt1 int).symm) hne
    | (_, true), _ => rfl
end
end Go.Proofs.YtabmfaamadbefaaGreat
namespace Go.Proofs.YtabmfaamadbefaaGreat
def frameH : List H3 := [⟨1, 0, 1000⟩, ⟨0, 1, 1000⟩, ⟨-1, 0, 1000⟩, ⟨0, -1, 1000⟩]

/-- A sorted list of valid half planes, within the frame. -/
structure Good (L : List H3) : Prop where
  sorted : Sorted L
  ok : ∀ g ∈ L, HOk g
  frame : ∀ k ∈ frameH, ∃ y ∈ L, Tle y k

theorem Good.nz {L : List H3} (G : Good L) : AllNZ L := fun g hg => (G.ok g hg).nz

theorem frameH_ok : ∀ k ∈ frameH, HOk k := by
  intro k hk
  simp only [frameH, List.mem_cons, List.not_mem_nil, or_false] at hk
  rcases hk with rfl | rfl | rfl | rfl <;> exact ⟨by simp, by simp, by simp, by simp [NZ], by simp [Prim, gcdL3]⟩

theorem Tle.in {y k : H3} (ny : NZ y) (nk : NZ k) (t : Tle y k) {p : Pt} (h : In y p) : In k p := by
  obtain ⟨ea, eb⟩ := prop_of_sameDir ny nk t.1
  have q1 : (y.a : Rat) * (sizeH k : Rat) = (k.a : Rat) * (sizeH y : Rat) := by exact_mod_cast ea
  have q2 : (y.b : Rat) * (sizeH k : Rat) = (k.b : Rat) * (sizeH y : Rat) := by exact_mod_cast eb
  have q3 : (y.c : Rat) * (sizeH k : Rat) ≤ (k.c : Rat) * (sizeH y : Rat) := by exact_mod_cast t.2
  have sk : (0 : Rat) < (sizeH k : Rat) := by exact_mod_cast size_pos nk
  have sy : (0 : Rat) < (sizeH y : Rat) := by exact_mod_cast size_pos ny
  have e : val k p * (sizeH y : Rat) = val y p * (sizeH k : Rat) := by unfold val; grind
  unfold In at *
  apply Classical.byContradiction; intro hn
  have m1 := Rat.mul_pos sy (show (0 : Rat) < val k p - k.c by grind)
  have m2 := Rat.mul_le_mul_of_nonneg_left (c := (sizeH k : Rat)) h (by grind)
  grind

theorem framed_pt {p : Pt} (h : ∀ k ∈ frameH, In k p) : -1000 ≤ p.x ∧ p.x ≤ 1000 ∧ -1000 ≤ p.y ∧ p.y ≤ 1000 := by
  have h1 := h ⟨1, 0, 1000⟩ (by simp [frameH])
  have h2 := h ⟨0, 1, 1000⟩ (by simp [frameH])
  have h3 := h ⟨-1, 0, 1000⟩ (by simp [frameH])
  have h4 := h ⟨0, -1, 1000⟩ (by simp [frameH])
  unfold In val at h1 h2 h3 h4
  push_cast at h1 h2 h3 h4
  exact ⟨by grind, by grind, by grind, by grind⟩

theorem Good.framed {L : List H3} (G : Good L) : Framed L := fun p hp => framed_pt fun k hk => by
  obtain ⟨y, hy, t⟩ := G.frame k hk
  exact t.in (G.nz y hy) (frameH_ok k hk).nz (hp y hy)

theorem cross_same_right {h k y : H3} (ny : NZ y) (nk : NZ k) (p : sameDir y k = true) : cross h y * sizeH k = cross h k * sizeH y := by
  obtain ⟨p1, p2⟩ := prop_of_sameDir ny nk p
  unfold cross; grind
theorem cross_self (h : H3) : cross h h = 0 := by unfold cross; rw [Int.mul_comm]; omega

theorem Good.both {L : List H3} (G : Good L) {h : H3} {rest : List H3} (o : Others L h rest) : Both h rest := by
  have nh := o.nh
  have get : ∀ k ∈ frameH, cross h k ≠ 0 → ∃ g ∈ rest, (0 < cross h k → 0 < cross h g) ∧ (cross h k < 0 → cross h g < 0) := by
    intro k hk hc
    obtain ⟨y, hy, t⟩ := G.frame k hk
    have e := cross_same_right (h := h) (G.nz y hy) (frameH_ok k hk).nz t.1
    have sk := size_pos (frameH_ok k hk).nz
    have sy := size_pos (G.nz y hy)
    have p1 : 0 < cross h k → 0 < cross h y := fun c => pos_of_mul_pos sk (by rw [e]; exact Int.mul_pos c sy)
    have p2 : cross h k < 0 → cross h y < 0 := fun c => by
      have : 0 < (-cross h y) := pos_of_mul_pos sk (by
        have : 0 < (-cross h k) * sizeH y := Int.mul_pos (by omega) sy
        grind)
      omega
    refine ⟨y, ?_, p1, p2⟩
    rcases (o.mem y).1 hy with rfl | hy
    · rw [cross_self] at p1 p2; omega
    · exact hy
  have c1 : cross h ⟨1, 0, 1000⟩ = -h.b := by simp [cross]
  have c2 : cross h ⟨0, 1, 1000⟩ = h.a := by simp [cross]
  have c3 : cross h ⟨-1, 0, 1000⟩ = h.b := by simp [cross]
  have c4 : cross h ⟨0, -1, 1000⟩ = -h.a := by simp [cross]
  unfold NZ at nh
  by_cases hb : h.b = 0
  · have ha : h.a ≠ 0 := by omega
    obtain ⟨g2, m2, p2, q2⟩ := get ⟨0, 1, 1000⟩ (by simp [frameH]) (by omega)
    obtain ⟨g4, m4, p4, q4⟩ := get ⟨0, -1, 1000⟩ (by simp [frameH]) (by omega)
    by_cases hp : 0 < h.a
    · exact ⟨⟨g4, m4, q4 (by omega)⟩, ⟨g2, m2, p2 (by omega)⟩⟩
    · exact ⟨⟨g2, m2, q2 (by omega)⟩, ⟨g4, m4, p4 (by omega)⟩⟩
  · obtain ⟨g1, m1, p1, q1⟩ := get ⟨1, 0, 1000⟩ (by simp [frameH]) (by omega)
    obtain ⟨g3, m3, p3, q3⟩ := get ⟨-1, 0, 1000⟩ (by simp [frameH]) (by omega)
    by_cases hp : 0 < h.b
    · exact ⟨⟨g1, m1, q1 (by omega)⟩, ⟨g3, m3, p3 (by omega)⟩⟩
    · exact ⟨⟨g3, m3, q3 (by omega)⟩, ⟨g1, m1, p1 (by omega)⟩⟩

theorem mem_eraseIdx_iff {l : List H3} {k : Nat} (hk : k < l.length) (g : H3) : g ∈ l ↔ g = l[k] ∨ g ∈ l.eraseIdx k := by
  constructor
  · intro hg
    obtain ⟨i, hi, e⟩ := List.mem_iff_getElem.1 hg
    by_cases h : i = k
    · subst h; exact .inl e.symm
    · refine .inr ?_
      rw [List.mem_eraseIdx_iff_getElem]
      exact ⟨i, hi, h, e⟩
  · rintro (rfl | hg)
    · exact List.getElem_mem hk
    · exact List.mem_of_mem_eraseIdx hg

theorem sorted_get {l : List H3} (hs : Sorted l) {i j : Nat} (hi : i < l.length) (hj : j < l.length) (hij : i < j) : before l[i] l[j] = true :=
  List.pairwise_iff_getElem.1 hs i j hi hj hij

theorem Good.others {L : List H3} (G : Good L) {k : Nat} (hk : k < L.length) : Others L L[k] (L.eraseIdx k) := by
  refine ⟨mem_eraseIdx_iff hk, fun g hg => ?_, G.nz⟩
  rw [List.mem_eraseIdx_iff_getElem] at hg
  obtain ⟨i, hi, hne, rfl⟩ := hg
  rw [Bool.eq_false_iff]
  intro hs
  rcases Nat.lt_or_gt_of_ne hne with h | h
  · have := sameDir_not_before (sameDir_symm hs); rw [sorted_get G.sorted hi hk h] at this; cases this
  · have := sameDir_not_before hs; rw [sorted_get G.sorted hk hi h] at this; cases this

/-- The program's test, for the half plane with index k: an edge; no room. -/
def edgeI (L : List H3) (k : Nat) (h : H3) : Bool × Bool :=
  match scanS h (L.eraseIdx k) with
  | none => (false, true)
  | some (some f, some t) => (decide (cmpF f.1 f.2 t.1 t.2 < 0), false)
  | some _ => (false, false)

theorem edgeI_spec {L : List H3} (G : Good L) {k : Nat} (hk : k < L.length) :
    ((edgeI L k L[k]).2 = true ∧ ∃ g ∈ L.eraseIdx k, cross L[k] g = 0 ∧ leaves g L[k] = false) ∨
    ((edgeI L k L[k]).2 = false ∧ (∀ g ∈ L.eraseIdx k, cross L[k] g = 0 → leaves g L[k] = true) ∧ ((edgeI L k L[k]).1 = true ↔ Edge L L[k])) := by
  have o := G.others hk
  rcases edge_scan o (G.both o) with ⟨e, hv⟩ | ⟨f, t, e, hp, _, _, he⟩
  · exact .inl ⟨by simp [edgeI, e], hv⟩
  · refine .inr ⟨by simp [edgeI, e], hp, ?_⟩
    rw [he]; simp [edgeI, e]

/-- The reference's test. -/
def edgeE (L : List H3) (k : Nat) (h : H3) : Bool := (scanE L h (L.eraseIdx k)).2
theorem edgeE_spec {L : List H3} (G : Good L) {k : Nat} (hk : k < L.length) : edgeE L k L[k] = true ↔ Edge L L[k] :=
  scanE_edge (G.others hk) (G.both (G.others hk)) G.ok G.framed

/-! ### No room -/
def Void (L : List H3) : Prop := ∃ g ∈ L, ∃ h ∈ L, sameDir h g = false ∧ cross h g = 0 ∧ leaves g h = false

theorem void_on {L : List H3} (G : Good L) {g h : H3} (hg : g ∈ L) (hh : h ∈ L) (d : sameDir h g = false) (k : cross h g = 0) (v : leaves g h = false) {p : Pt} (hp : Inside L p) : On h p := by
  obtain ⟨e1, e2⟩ := opp_prop (G.nz h hh) (G.nz g hg) k d
  have q1 : (g.a : Rat) * (sizeH h : Rat) = -(h.a : Rat) * (sizeH g : Rat) := by exact_mod_cast e1
  have q2 : (g.b : Rat) * (sizeH h : Rat) = -(h.b : Rat) * (sizeH g : Rat) := by exact_mod_cast e2
  have sh : (0 : Rat) < (sizeH h : Rat) := by exact_mod_cast size_pos (G.nz h hh)
  have sg : (0 : Rat) < (sizeH g : Rat) := by exact_mod_cast size_pos (G.nz g hg)
  unfold leaves at v
  simp only [decide_eq_false_iff_not] at v
  have vq : (g.c : Rat) * (sizeH h : Rat) + (h.c : Rat) * (sizeH g : Rat) ≤ 0 := by exact_mod_cast (by omega : g.c * sizeH h + h.c * sizeH g ≤ 0)
  have e : val g p * (sizeH h : Rat) = -val h p * (sizeH g : Rat) := by unfold val; grind
  have i1 := hp g hg
  have i2 := hp h hh
  unfold In at i1 i2; unfold On
  have m1 := Rat.mul_le_mul_of_nonneg_left (c := (sizeH h : Rat)) i1 (by grind)
  apply Classical.byContradiction; intro hn
  have m2 := Rat.mul_pos sg (show (0 : Rat) < h.c - val h p by grind)
  grind

theorem two_on_par {e h : H3} (nh : NZ h) {p q : Pt} (o1 : On e p) (o2 : On e q) (p1 : On h p) (p2 : On h q) (hne : prm e p ≠ prm e q) : cross h e = 0 := by
  apply Classical.byContradiction; intro k
  have t1 := (crossT_on nh k p1).1 o1
  have t2 := (crossT_on nh k p2).1 o2
  have : p = q := pt_eq nh (by unfold On at p1 p2; rw [p1, p2]) (by rw [t1, t2])
  rw [this] at hne; exact hne rfl

theorem Good.neg_dir {L : List H3} (G : Good L) {h e : H3} (hh : h ∈ L) (k : cross h e = 0) : sameDir h e = true ∨ sameDir (negH h) e = true := by
  by_cases d : sameDir h e = true
  · exact .inl d
  · refine .inr ?_
    have d' : sameDir h e = false := by simpa using d
    rw [sameDir_iff]
    refine ⟨by unfold cross negH; unfold cross at k; simp only; grind, ?_⟩
    rw [upB_neg (G.nz h hh)]
    rw [Bool.eq_false_iff, Ne, sameDir_iff] at d'
    cases e1 : upB h <;> cases e2 : upB e <;> simp_all

/-- Three half planes of a sorted list are not all parallel to one. -/
theorem three_par {L : List H3} (G : Good L) {h a b c : H3} (hh : h ∈ L) (ha : a ∈ L) (hb : b ∈ L) (hc : c ∈ L) (ka : cross h a = 0) (kb : cross h b = 0) (kc : cross h c = 0) : a = b ∨ a = c ∨ b = c := by
  have nn : NZ (negH h) := by have := G.nz h hh; unfold NZ negH at *; simp only; omega
  have nh := G.nz h hh
  have j : ∀ x y : H3, x ∈ L → y ∈ L → ∀ z : H3, NZ z → sameDir z x = true → sameDir z y = true → x = y := fun x y hx hy z nz s1 s2 =>
    sorted_same_eq G.sorted hx hy (sameDir_trans (G.nz x hx) nz (G.nz y hy) (sameDir_symm s1) s2)
  rcases G.neg_dir hh ka with sa | sa <;> rcases G.neg_dir hh kb with sb | sb <;> rcases G.neg_dir hh kc with sc | sc
  · exact .inl (j a b ha hb h nh sa sb)
  · exact .inl (j a b ha hb h nh sa sb)
  · exact .inr (.inl (j a c ha hc h nh sa sc))
  · exact .inr (.inr (j b c hb hc _ nn sb sc))
  · exact .inr (.inr (j b c hb hc h nh sb sc))
  · exact .inr (.inl (j a c ha hc _ nn sa sc))
  · exact .inl (j a b ha hb _ nn sa sb)
  · exact .inl (j a b ha hb _ nn sa sb)

/-! ### The next edge -/
/-- Of half planes on one side of e, the one with the greatest angle. -/
theorem last_angle {e : H3} : ∀ (A : List H3), A ≠ [] → (∀ f ∈ A, 0 < cross e f) → ∃ g ∈ A, ∀ f ∈ A, cross g f ≤ 0 := by
  intro A
  induction A with
  | nil => intro h _; exact absurd rfl h
  | cons x r ih =>
    intro _ hp
    by_cases hr : r = []
    · subst hr
      exact ⟨x, List.mem_cons_self, fun f hf => by rw [List.mem_singleton.1 hf, cross_self]; exact Int.le_refl _⟩
    · obtain ⟨g, hg, hm⟩ := ih hr (fun f hf => hp f (List.mem_cons_of_mem _ hf))
      have px := hp x List.mem_cons_self
      have pg := hp g (List.mem_cons_of_mem _ hg)
      by_cases hx : cross g x ≤ 0
      · refine ⟨g, List.mem_cons_of_mem _ hg, fun f hf => ?_⟩
        rcases List.mem_cons.1 hf with rfl | hf
        · exact hx
        · exact hm f hf
      · refine ⟨x, List.mem_cons_self, fun f hf => ?_⟩
        rcases List.mem_cons.1 hf with rfl | hf
        · rw [cross_self]; exact Int.le_refl _
        · have pf := hp f (List.mem_cons_of_mem _ hf)
          have h1 := hm f hf
          have id : cross g f * cross e x = cross g x * cross e f + cross x f * cross e g := by unfold cross; grind
          apply Classical.byContradiction; intro hn
          have m1 : cross g f * cross e x ≤ 0 := Int.mul_nonpos_of_nonpos_of_nonneg h1 (by omega)
          have m2 : 0 < cross g x * cross e f := Int.mul_pos (by omega) pf
          have m3 : 0 < cross x f * cross e g := Int.mul_pos (by omega) pg
          omega

theorem exists_min (S : H3 → Rat) : ∀ (A : List H3), A ≠ [] → ∃ g ∈ A, ∀ f ∈ A, S g ≤ S f := by
  intro A
  induction A with
  | nil => intro h; exact absurd rfl h
  | cons x r ih =>
    intro _
    by_cases hr : r = []
    · subst hr; exact ⟨x, List.mem_cons_self, fun f hf => by rw [List.mem_singleton.1 hf]; exact Rat.le_refl⟩
    · obtain ⟨g, hg, hm⟩ := ih hr
      by_cases hx : S g ≤ S x
      · refine ⟨g, List.mem_cons_of_mem _ hg, fun f hf => ?_⟩
        rcases List.mem_cons.1 hf with rfl | hf
        · exact hx
        · exact hm f hf
      · refine ⟨x, List.mem_cons_self, fun f hf => ?_⟩
        rcases List.mem_cons.1 hf with rfl | hf
        · exact Rat.le_refl
        · have := hm f hf; grind

/-- g is the edge that follows e. -/
structure Next (L : List H3) (e g : H3) (v : Pt) : Prop where
  eg : Edge L g
  mg : g ∈ L
  turn : 0 < cross e g
  oe : On e v
  og : On g v
  iv : Inside L v

theorem Good.others_of {L : List H3} (G : Good L) {h : H3} (hh : h ∈ L) : ∃ rest, Others L h rest := by
  obtain ⟨k, hk, e⟩ := List.mem_iff_getElem.1 hh
  exact ⟨L.eraseIdx k, e ▸ G.others hk⟩

theorem next_exists {L : List H3} (G : Good L) (nv : ¬ Void L) {e : H3} (he : e ∈ L) (ed : Edge L e) : ∃ g v, Next L e g v := by
  obtain ⟨rest, o⟩ := G.others_of he
  obtain ⟨b1, b2⟩ := G.both o
  -- the farther end of e
  have mA : ∀ g, g ∈ rest.filter (fun g => decide (0 < cross e g)) ↔ g ∈ rest ∧ 0 < cross e g := fun g => by simp
  have neA : rest.filter (fun g => decide (0 < cross e g)) ≠ [] := by
    obtain ⟨g, hg, k⟩ := b2
    intro h0; have := (mA g).2 ⟨hg, k⟩; rw [h0] at this; cases this
  obtain ⟨gt, hgt, tmin⟩ := exists_min (crossT e) _ neA
  obtain ⟨hgt1, hgt2⟩ := (mA gt).1 hgt
  obtain ⟨p, q, op, oq, hlt, ip, iq⟩ := ed
  obtain ⟨a1, a2, a3⟩ := (inside_iff o op).1 ip
  obtain ⟨c1, c2, c3⟩ := (inside_iff o oq).1 iq
  have tq : prm e q ≤ crossT e gt := c2 gt hgt1 hgt2
  have nz := o.nh
  have ov := ptAt_on nz (crossT e gt)
  have pv := ptAt_prm nz (crossT e gt)
  generalize ptAt e (crossT e gt) = v at ov pv
  have iv : Inside L v := by
    rw [inside_iff o ov, pv]
    refine ⟨a1, fun g hg k => tmin g ((mA g).2 ⟨hg, k⟩), fun g hg k => ?_⟩
    have := c3 g hg k; grind
  -- of those that meet it, the one with the greatest angle
  have mB : ∀ g, g ∈ (rest.filter (fun g => decide (0 < cross e g))).filter (fun g => decide (crossT e g = crossT e gt)) ↔ (g ∈ rest ∧ 0 < cross e g) ∧ crossT e g = crossT e gt := fun g => by simp only [List.mem_filter, decide_eq_true_eq]
  obtain ⟨g, hg, gmax⟩ := last_angle (e := e) _ (by intro h0; have := (mB gt).2 ⟨⟨hgt1, hgt2⟩, rfl⟩; rw [h0] at this; cases this) (fun f hf => ((mB f).1 hf).1.2)
  obtain ⟨⟨hg1, hg2⟩, hg3⟩ := (mB g).1 hg
  have mgL : g ∈ L := (o.mem g).2 (.inr hg1)
  have og : On g v := (crossT_on nz (by omega) ov).2 (by rw [pv, hg3])
  obtain ⟨rest', o'⟩ := G.others_of mgL
  obtain ⟨d1, d2⟩ := G.both o'
  -- whoever turns on from g does not meet v
  have strict : ∀ f ∈ rest', 0 < cross g f → prm g v < crossT g f := by
    intro f hf k
    have fL : f ∈ L := (o'.mem f).2 (.inr hf)
    have le := (in_iff_pos o'.nh k og).1 (iv f fL)
    apply Classical.byContradiction; intro hn
    have eqv : prm g v = crossT g f := by grind
    have ofv : On f v := (crossT_on o'.nh (by omega) og).2 eqv
    rcases (o.mem f).1 fL with rfl | fr
    · rw [cross_anti] at k; omega
    · rcases Int.lt_trichotomy (cross e f) 0 with kk | kk | kk
      · have t1 := (crossT_on nz (by omega) ov).1 ofv
        have t2 := (in_iff_neg nz kk op).1 (ip f fL)
        grind
      · apply nv
        refine ⟨f, fL, e, he, o.dir f fr, kk, ?_⟩
        obtain ⟨e1, e2⟩ := opp_prop nz (o.ng fr) kk (o.dir f fr)
        have q1 : (f.a : Rat) * (sizeH e : Rat) = -(e.a : Rat) * (sizeH f : Rat) := by exact_mod_cast e1
        have q2 : (f.b : Rat) * (sizeH e : Rat) = -(e.b : Rat) * (sizeH f : Rat) := by exact_mod_cast e2
        have z : (f.c : Rat) * (sizeH e : Rat) + (e.c : Rat) * (sizeH f : Rat) = 0 := by
          unfold On val at ofv ov; rw [← ofv, ← ov]; grind
        have zi : f.c * sizeH e + e.c * sizeH f = 0 := by exact_mod_cast z
        unfold leaves; rw [zi]; rfl
      · have t1 := (crossT_on nz (by omega) ov).1 ofv
        have := gmax f ((mB f).2 ⟨⟨fr, kk⟩, by rw [← t1, pv]⟩)
        omega
  have mC : ∀ f, f ∈ rest'.filter (fun f => decide (0 < cross g f)) ↔ f ∈ rest' ∧ 0 < cross g f := fun f => by simp
  obtain ⟨ft, hft, fmin⟩ := exists_min (crossT g) (rest'.filter fun f => decide (0 < cross g f)) (by
    obtain ⟨f, hf, k⟩ := d2
    intro h0; have := (mC f).2 ⟨hf, k⟩; rw [h0] at this; cases this)
  obtain ⟨hft1, hft2⟩ := (mC ft).1 hft
  obtain ⟨w1, w2, w3⟩ := (inside_iff o' og).1 iv
  have ow := ptAt_on o'.nh (crossT g ft)
  have pw := ptAt_prm o'.nh (crossT g ft)
  generalize ptAt g (crossT g ft) = w at ow pw
  have hvw := strict ft hft1 hft2
  have iw : Inside L w := by
    rw [inside_iff o' ow, pw]
    refine ⟨w1, fun f hf k => fmin f ((mC f).2 ⟨hf, k⟩), fun f hf k => ?_⟩
    have := w3 f hf k; grind
  exact ⟨g, v, ⟨⟨v, w, og, ow, by rw [pw]; exact hvw, iv, iw⟩, mgL, hg2, ov, og, iv⟩⟩

/-- Between an edge and the next one there is no edge. -/
theorem next_none {L : List H3} (G : Good L) {e g f : H3} {v : Pt} (n : Next L e g v) (he : e ∈ L) (hf : f ∈ L) (k1 : 0 < cross e f) (k2 : 0 < cross f g) : ¬ Edge L f := by
  rintro ⟨p, q, op, oq, hlt, ip, iq⟩
  have a1 : (0 : Rat) < (cross f g : Rat) := by exact_mod_cast k2
  have a2 : (0 : Rat) < (cross e f : Rat) := by exact_mod_cast k1
  have a3 : (0 : Rat) < (cross e g : Rat) := by exact_mod_cast n.turn
  have id : ∀ w : Pt, (cross e g : Rat) * val f w = (cross f g : Rat) * val e w + (cross e f : Rat) * val g w := fun w => by
    rw [crossQ, crossQ, crossQ]; unfold val; grind
  have key : ∀ w : Pt, On f w → Inside L w → On e w ∧ On g w := by
    intro w ow iw
    have v1 := id v
    have w1 := id w
    have ie := iw e he
    have ig := iw g n.mg
    have fv := n.iv f hf
    have oe := n.oe
    have og := n.og
    unfold On at ow oe og ⊢; unfold In at ie ig fv
    rw [oe, og] at v1
    rw [ow] at w1
    have m1 := Rat.mul_le_mul_of_nonneg_left (c := (cross e g : Rat)) fv (by grind)
    constructor
    · apply Classical.byContradiction; intro hn
      have m2 := Rat.mul_pos a1 (show (0 : Rat) < e.c - val e w by grind)
      have m3 := Rat.mul_le_mul_of_nonneg_left (c := (cross e f : Rat)) ig (by grind)
      grind
    · apply Classical.byContradiction; intro hn
      have m2 := Rat.mul_pos a2 (show (0 : Rat) < g.c - val g w by grind)
      have m3 := Rat.mul_le_mul_of_nonneg_left (c := (cross f g : Rat)) ie (by grind)
      grind
  obtain ⟨x1, y1⟩ := key p op ip
  obtain ⟨x2, y2⟩ := key q oq iq
  have := two_on_par (G.nz e he) op oq x1 x2 (by grind)
  omega
end Go.Proofs.YtabmfaamadbefaaGreat
namespace Go.Proofs.YtabmfaamadbefaaGreat
/-- The program's edges: none if somewhere there is no room. -/
def pickI (L : List H3) : Nat → Option (List H3)
  | 0 => some []
  | k + 1 => match pickI L k with
    | none => none
    | some out => if h : k < L.length then (if (edgeI L k L[k]).2 then none else if (edgeI L k L[k]).1 then some (out ++ [L[k]]) else some out) else some out
/-- The reference's edges. -/
def pickE (L : List H3) : Nat → List H3
  | 0 => []
  | k + 1 => if h : k < L.length then (if edgeE L k L[k] then pickE L k ++ [L[k]] else pickE L k) else pickE L k

def makeI (L : List H3) : List H3 := (pickI L L.length).getD []
def makeE (L : List H3) : List H3 := if (pickE L L.length).length < 3 then [] else pickE L L.length

section
variable {L : List H3}
theorem void_iff (G : Good L) : Void L ↔ ∃ k, ∃ h : k < L.length, (edgeI L k L[k]).2 = true := by
  constructor
  · rintro ⟨g, hg, h, hh, d, c, v⟩
    obtain ⟨k, hk, rfl⟩ := List.mem_iff_getElem.1 hh
    refine ⟨k, hk, ?_⟩
    rcases edgeI_spec G hk with ⟨e, _⟩ | ⟨_, hp, _⟩
    · exact e
    · have gm : g ∈ L.eraseIdx k := by
        rcases (mem_eraseIdx_iff hk g).1 hg with e | e
        · subst e; rw [sameDir_refl] at d; cases d
        · exact e
      have := hp g gm c
      rw [v] at this; cases this
  · rintro ⟨k, hk, e⟩
    rcases edgeI_spec G hk with ⟨_, g, hg, c, v⟩ | ⟨e', _⟩
    · exact ⟨g, ((mem_eraseIdx_iff hk g).2 (.inr hg)), L[k], List.getElem_mem hk, (G.others hk).dir g hg, c, v⟩
    · rw [e] at e'; cases e'

theorem pickE_mem (G : Good L) : ∀ k, k ≤ L.length → (∀ x, x ∈ pickE L k ↔ x ∈ L.take k ∧ Edge L x) ∧ (pickE L k).Sublist (L.take k) := by
  intro k
  induction k with
  | zero => intro _; simp [pickE]
  | succ k ih =>
    intro hk
    obtain ⟨h1, h2⟩ := ih (by omega)
    have hlt : k < L.length := by omega
    unfold pickE
    rw [dif_pos hlt, List.take_succ_eq_append_getElem hlt]
    have es := edgeE_spec G hlt
    split
    · rename_i he
      refine ⟨fun x => ?_, h2.append (List.Sublist.refl _)⟩
      rw [List.mem_append, h1, List.mem_append, List.mem_singleton]
      constructor
      · rintro (⟨a, b⟩ | rfl)
        · exact ⟨.inl a, b⟩
        · exact ⟨.inr rfl, es.1 he⟩
      · rintro ⟨a | rfl, b⟩
        · exact .inl ⟨a, b⟩
        · exact .inr rfl
    · rename_i he
      refine ⟨fun x => ?_, h2.trans (List.sublist_append_left _ _)⟩
      rw [h1, List.mem_append, List.mem_singleton]
      constructor
      · rintro ⟨a, b⟩; exact ⟨.inl a, b⟩
      · rintro ⟨a | rfl, b⟩
        · exact ⟨a, b⟩
        · exact absurd (es.2 b) he

theorem pickI_novoid (G : Good L) (nv : ¬ Void L) : ∀ k, k ≤ L.length → pickI L k = some (pickE L k) := by
  intro k
  induction k with
  | zero => intro _; rfl
  | succ k ih =>
    intro hk
    have hlt : k < L.length := by omega
    unfold pickI pickE
    rw [ih (by omega)]
    simp only [dif_pos hlt]
    rcases edgeI_spec G hlt with ⟨e, _⟩ | ⟨e, _, he⟩
    · exact absurd ((void_iff G).2 ⟨k, hlt, e⟩) nv
    · rw [e]
      have eq : (edgeI L k L[k]).1 = edgeE L k L[k] := by
        rw [Bool.eq_iff_iff, he, edgeE_spec G hlt]
      simp only [Bool.false_eq_true, if_false, eq]
      split <;> rfl

theorem pickI_void : ∀ k j, j < k → (h : j < L.length) → (edgeI L j L[j]).2 = true → pickI L k = none := by
  intro k
  induction k with
  | zero => intro j h; omega
  | succ k ih =>
    intro j hj hl he
    unfold pickI
    by_cases hjk : j < k
    · rw [ih j hjk hl he]
    · obtain rfl : j = k := by omega
      cases pickI L j with
      | none => rfl
      | some out => simp only [dif_pos hl, he, if_true]

theorem pick_sorted (G : Good L) : Sorted (pickE L L.length) := by
  have := (pickE_mem G L.length (Nat.le_refl _)).2
  rw [List.take_length] at this
  exact List.Pairwise.sublist this G.sorted
theorem pick_mem (G : Good L) (x : H3) : x ∈ pickE L L.length ↔ x ∈ L ∧ Edge L x := by
  have := (pickE_mem G L.length (Nat.le_refl _)).1 x
  rwa [List.take_length] at this

/-- Where there is no room, there are at most two edges. -/
theorem void_few (G : Good L) (v : Void L) : (pickE L L.length).length < 3 := by
  obtain ⟨g, hg, h, hh, d, c, lv⟩ := v
  have par : ∀ e, e ∈ L → Edge L e → cross h e = 0 := by
    rintro e he ⟨p, q, op, oq, hlt, ip, iq⟩
    exact two_on_par (G.nz h hh) op oq (void_on G hg hh d c lv ip) (void_on G hg hh d c lv iq) (by grind)
  apply Classical.byContradiction
  intro hn
  have hs := pick_sorted G
  have hm := pick_mem G
  generalize pickE L L.length = out at hn hs hm
  have l0 : 0 < out.length := by omega
  have l1 : 1 < out.length := by omega
  have l2 : 2 < out.length := by omega
  obtain ⟨m0, e0⟩ := (hm _).1 (List.getElem_mem l0)
  obtain ⟨m1, e1⟩ := (hm _).1 (List.getElem_mem l1)
  obtain ⟨m2, e2⟩ := (hm _).1 (List.getElem_mem l2)
  have b01 := sorted_get hs l0 l1 (by omega)
  have b02 := sorted_get hs l0 l2 (by omega)
  have b12 := sorted_get hs l1 l2 (by omega)
  rcases three_par G hh m0 m1 m2 (par _ m0 e0) (par _ m1 e1) (par _ m2 e2) with e | e | e
  · rw [e, before_irrefl] at b01; cases b01
  · rw [e, before_irrefl] at b02; cases b02
  · rw [e, before_irrefl] at b12; cases b12

/-- Where there is room and an edge, there are at least three. -/
theorem many_edges (G : Good L) (nv : ¬ Void L) {x : H3} (hx : x ∈ L) (ex : Edge L x) : 3 ≤ (pickE L L.length).length := by
  obtain ⟨y, v, n1⟩ := next_exists G nv hx ex
  obtain ⟨z, v', n2⟩ := next_exists G nv n1.mg n1.eg
  have mx := (pick_mem G x).2 ⟨hx, ex⟩
  have my := (pick_mem G y).2 ⟨n1.mg, n1.eg⟩
  have mz := (pick_mem G z).2 ⟨n2.mg, n2.eg⟩
  have xy : x ≠ y := by rintro rfl; have := n1.turn; rw [cross_self] at this; omega
  have yz : y ≠ z := by rintro rfl; have := n2.turn; rw [cross_self] at this; omega
  have xz : x ≠ z := by rintro rfl; have := n2.turn; have := n1.turn; rw [cross_anti] at this; omega
  generalize pickE L L.length = out at mx my mz
  match out, mx, my, mz with
  | [], mx, _, _ => cases mx
  | [a], mx, my, _ => simp at mx my; exact absurd (mx.trans my.symm) xy
  | [a, b], mx, my, mz =>
    simp at mx my mz
    rcases mx with e1 | e1 <;> rcases my with e2 | e2 <;> rcases mz with e3 | e3
    · exact absurd (e1.trans e2.symm) xy
    · exact absurd (e1.trans e2.symm) xy
    · exact absurd (e1.trans e3.symm) xz
    · exact absurd (e2.trans e3.symm) yz
    · exact absurd (e2.trans e3.symm) yz
    · exact absurd (e1.trans e3.symm) xz
    · exact absurd (e1.trans e2.symm) xy
    · exact absurd (e1.trans e2.symm) xy
  | a :: b :: c :: r, _, _, _ => simp

/-- THE TWO WAYS AGREE. -/
theorem make_eq (G : Good L) : makeI L = makeE L := by
  unfold makeI makeE
  by_cases v : Void L
  · obtain ⟨k, hk, e⟩ := (void_iff G).1 v
    rw [pickI_void L.length k hk hk e, if_pos (void_few G v)]
    rfl
  · rw [pickI_novoid G v L.length (Nat.le_refl _)]
    split
    · rename_i hl
      cases hp : pickE L L.length with
      | nil => rfl
      | cons x r =>
        have mx : x ∈ pickE L L.length := by rw [hp]; exact List.mem_cons_self
        obtain ⟨h1, h2⟩ := (pick_mem G x).1 mx
        have := many_edges G v h1 h2
        omega
    · rfl
end
/-! ### The region of half planes -/
def sorted4 (halves : List H3) : List H3 := sortH (halves ++ frameH)

theorem good_sorted {halves : List H3} (ok : ∀ h ∈ halves, HOk h) : Good (sorted4 halves) := by
  have oks : ∀ h ∈ halves ++ frameH, HOk h := fun h hh => by
    rcases List.mem_append.1 hh with hh | hh
    · exact ok h hh
    · exact frameH_ok h hh
  have nz : AllNZ (halves ++ frameH) := fun h hh => (oks h hh).nz
  refine ⟨sortH_sorted nz, fun g hg => oks g (sortH_mem nz hg), fun k hk => sortH_cover nz (List.mem_append_right _ hk)⟩
theorem sorted4_comm {halves : List H3} (ok : ∀ h ∈ halves, HOk h) : sortH (frameH ++ halves) = sorted4 halves := by
  have oks : ∀ h ∈ frameH ++ halves, HOk h := fun h hh => by
    rcases List.mem_append.1 hh with hh | hh
    · exact frameH_ok h hh
    · exact ok h hh
  exact sortH_ext (fun h hh => (oks h hh).nz) (fun h hh => (oks h hh).prim) (fun x => by simp [or_comm])

/-- The region of the points of the frame in all these half planes. -/
def makeR (halves : List H3) : List H3 := makeE (sorted4 halves)
end Go.Proofs.YtabmfaamadbefaaGreat
namespace Go.Proofs.YtabmfaamadbefaaGreat
theorem take_erase_same {α : Type} (L : List α) (k : Nat) : (L.take (k + 1)).eraseIdx k = (L.take k).eraseIdx k := by
  by_cases hk : k < L.length
  · have e0 : (L.take k).length = k := by simp; omega
    rw [List.take_succ_eq_append_getElem hk, List.eraseIdx_append_of_length_le (by omega), e0, Nat.sub_self, List.eraseIdx_of_length_le (l := L.take k) (by omega)]
    simp
  · rw [List.take_of_length_le (by omega), List.take_of_length_le (by omega)]
theorem take_erase_succ {α : Type} (L : List α) (k j : Nat) (hj : j < L.length) (hne : j ≠ k) : (L.take (j + 1)).eraseIdx k = (L.take j).eraseIdx k ++ [L[j]] := by
  rw [List.take_succ_eq_append_getElem hj]
  by_cases h : k < j
  · rw [List.eraseIdx_append_of_lt_length (by simp; omega)]
  · rw [List.eraseIdx_append_of_length_le (by simp; omega), List.eraseIdx_of_length_le (l := List.take j L) (by simp; omega)]
    congr 1
    rw [List.eraseIdx_of_length_le (by simp; omega)]

theorem scanS_snoc (h : H3) (l : List H3) (g : H3) : scanS h (l ++ [g]) = stepS h (scanS h l) g := by
  unfold scanS; rw [List.foldl_append]; rfl
theorem scanS_succ (h : H3) (L : List H3) (k j : Nat) (hj : j < L.length) (hne : j ≠ k) : scanS h ((L.take (j + 1)).eraseIdx k) = stepS h (scanS h ((L.take j).eraseIdx k)) L[j] := by
  rw [take_erase_succ L k j hj hne, scanS_snoc]
theorem scanS_none (h : H3) (l m : List H3) (e : scanS h l = none) : scanS h (l ++ m) = none := by
  unfold scanS at *
  rw [List.foldl_append, e]
  induction m with
  | nil => rfl
  | cons g r ih => exact ih
theorem scanS_none_all (h : H3) (L : List H3) (k j : Nat) (hj : j < L.length) (hne : j ≠ k) (e : stepS h (scanS h ((L.take j).eraseIdx k)) L[j] = none) : scanS h (L.eraseIdx k) = none := by
  rw [← scanS_succ h L k j hj hne] at e
  by_cases hk : k < j + 1
  · have : L.eraseIdx k = (L.take (j + 1)).eraseIdx k ++ L.drop (j + 1) := by
      conv => lhs; rw [← List.take_append_drop (j + 1) L]
      rw [List.eraseIdx_append_of_lt_length (by simp; omega)]
    rw [this]; exact scanS_none _ _ _ e
  · have h1 : (L.take (j + 1)).eraseIdx k = L.take (j + 1) := List.eraseIdx_of_length_le (by simp; omega)
    have : L.eraseIdx k = L.take (j + 1) ++ (L.drop (j + 1)).eraseIdx (k - (j + 1)) := by
      conv => lhs; rw [← List.take_append_drop (j + 1) L]
      rw [List.eraseIdx_append_of_length_le (by simp; omega)]
      congr 2; simp; omega
    rw [this]; rw [h1] at e; exact scanS_none _ _ _ e

def optM (b : Bool) (n d : Int) : Option Fr := if b then some (n, d) else none
theorem markI_bd {h g : H3} (kh : HOk h) (kg : HOk g) (k : cross h g ≠ 0) : -1000000000000000000 ≤ (markI h g).1 ∧ (markI h g).1 ≤ 1000000000000000000 ∧ 0 < (markI h g).2 ∧ (markI h g).2 ≤ 5000000000 := by
  have p1 := mul_bd kh.bc kg.bb
  have p2 := mul_bd kg.bc kh.bb
  have p3 := mul_bd kh.ba kg.bc
  have p4 := mul_bd kg.ba kh.bc
  have hx : -10000000000000 ≤ (crossI h g).1 ∧ (crossI h g).1 ≤ 10000000000000 := by unfold crossI; split <;> simp only <;> omega
  have hy : -10000000000000 ≤ (crossI h g).2.1 ∧ (crossI h g).2.1 ≤ 10000000000000 := by unfold crossI; split <;> simp only <;> omega
  have q1 := mul_bd kh.ba hy
  have q2 := mul_bd kh.bb hx
  have := crossI_pos k
  have := crossI_bd kh kg
  unfold markI; simp only; omega
theorem mark_parts {h g : H3} (kh : HOk h) (kg : HOk g) : (-10000000000000 ≤ (crossI h g).1 ∧ (crossI h g).1 ≤ 10000000000000) ∧ (-10000000000000 ≤ (crossI h g).2.1 ∧ (crossI h g).2.1 ≤ 10000000000000) ∧
    (-500000000000000000 ≤ h.a * (crossI h g).2.1 ∧ h.a * (crossI h g).2.1 ≤ 500000000000000000) ∧ (-500000000000000000 ≤ h.b * (crossI h g).1 ∧ h.b * (crossI h g).1 ≤ 500000000000000000) := by
  have p1 := mul_bd kh.bc kg.bb
  have p2 := mul_bd kg.bc kh.bb
  have p3 := mul_bd kh.ba kg.bc
  have p4 := mul_bd kg.ba kh.bc
  have hx : -10000000000000 ≤ (crossI h g).1 ∧ (crossI h g).1 ≤ 10000000000000 := by unfold crossI; split <;> simp only <;> omega
  have hy : -10000000000000 ≤ (crossI h g).2.1 ∧ (crossI h g).2.1 ≤ 10000000000000 := by unfold crossI; split <;> simp only <;> omega
  have q1 := mul_bd kh.ba hy
  have q2 := mul_bd kh.bb hx
  refine ⟨hx, hy, by omega, by omega⟩

theorem step_zero {h g : H3} (f t : Option Fr) (k : cross h g = 0) : stepS h (some (f, t)) g = if leaves g h then some (f, t) else none := by simp [stepS, k]
theorem step_pos {h g : H3} (f t : Option Fr) (k : 0 < cross h g) : stepS h (some (f, t)) g = some (f, upd false t (markI h g)) := by
  unfold stepS; simp only; rw [if_neg (by omega), if_pos k]
theorem step_neg {h g : H3} (f t : Option Fr) (k : cross h g < 0) : stepS h (some (f, t)) g = some (upd true f (markI h g), t) := by
  unfold stepS; simp only; rw [if_neg (by omega), if_neg (by omega)]
theorem upd_first (b : Bool) (m : Fr) (n d : Int) : upd b (optM false n d) m = optM true m.1 m.2 := rfl
theorem upd_to (m : Fr) (n d : Int) : upd false (optM true n d) m = if 0 ≤ cmpF m.1 m.2 n d then optM true n d else optM true m.1 m.2 := by
  simp [upd, optM]
theorem upd_from (m : Fr) (n d : Int) : upd true (optM true n d) m = if cmpF m.1 m.2 n d ≤ 0 then optM true n d else optM true m.1 m.2 := by
  simp [upd, optM]
theorem edgeI_of_scan {L : List H3} {k : Nat} {h : H3} {fb tb : Bool} {fn fd tn td : Int} (e : scanS h (L.eraseIdx k) = some (optM fb fn fd, optM tb tn td)) : edgeI L k h = (fb && tb && decide (cmpF fn fd tn td < 0), false) := by
  unfold edgeI; rw [e]; cases fb <;> cases tb <;> rfl
theorem edgeI_of_none {L : List H3} {k : Nat} {h : H3} (e : scanS h (L.eraseIdx k) = none) : edgeI L k h = (false, true) := by
  unfold edgeI; rw [e]
end Go.Proofs.YtabmfaamadbefaaGreat
namespace Go.Proofs.YtabmfaamadbefaaGreat
theorem insH_skip (h : H3) : ∀ (o : List H3) (j : Nat), j ≤ o.length → (∀ i (hi : i < o.length), i < j → before o[i] h = true) → insH o h = o.take j ++ insH (o.drop j) h := by
  intro o
  induction o with
  | nil => intro j hj _; simp
  | cons g r ih =>
    intro j hj hb
    cases j with
    | zero => simp
    | succ j =>
      have h0 := hb 0 (by simp) (by omega)
      simp only [List.getElem_cons_zero] at h0
      rw [List.take_succ_cons, List.drop_succ_cons, List.cons_append, ← ih j (by simpa using hj) (fun i hi hij => hb (i + 1) (by simpa using hi) (by omega))]
      show (if before g h = true then _ else _) = _
      rw [if_pos h0]
theorem insH_end (h : H3) (o : List H3) (hb : ∀ i (hi : i < o.length), i < o.length → before o[i] h = true) : insH o h = o.take o.length ++ h :: o.drop o.length := by
  rw [insH_skip h o o.length (Nat.le_refl _) hb, List.drop_length]; rfl
theorem insH_new (h : H3) (o : List H3) (j : Nat) (hj : j < o.length) (hb : ∀ i (hi : i < o.length), i < j → before o[i] h = true) (n1 : before o[j] h = false) (n2 : sameDir o[j] h = false) : insH o h = o.take j ++ h :: o.drop j := by
  rw [insH_skip h o j (by omega) hb, List.drop_eq_getElem_cons hj]
  congr 1
  unfold insH; rw [n1, n2]; rfl
theorem insH_set (h : H3) (o : List H3) (j : Nat) (hj : j < o.length) (hb : ∀ i (hi : i < o.length), i < j → before o[i] h = true) (n1 : before o[j] h = false) (n2 : sameDir o[j] h = true) : insH o h = o.set j (tighter o[j] h) := by
  rw [insH_skip h o j (by omega) hb, List.drop_eq_getElem_cons hj, List.set_eq_take_append_cons_drop, if_pos hj]
  congr 1
  unfold insH; rw [n1, n2]; rfl
theorem sortH_succ (l : List H3) (k : Nat) (hk : k < l.length) : sortH (l.take (k + 1)) = insH (sortH (l.take k)) l[k] := by
  unfold sortH; rw [List.take_succ_eq_append_getElem hk, List.foldl_append]; rfl
theorem sortH_length (l : List H3) : (sortH l).length ≤ l.length := by
  have ins : ∀ (o : List H3) (h : H3), (insH o h).length ≤ o.length + 1 := by
    intro o h
    induction o with
    | nil => simp [insH]
    | cons g r ih => unfold insH; split; simp only [List.length_cons]; omega; split <;> simp
  have : ∀ (l o : List H3), (l.foldl insH o).length ≤ l.length + o.length := by
    intro l
    induction l with
    | nil => intro o; simp
    | cons h r ih => intro o; have := ih (insH o h); have := ins o h; simp only [List.foldl_cons, List.length_cons]; omega
  have := this l []; simpa [sortH] using this
end Go.Proofs.YtabmfaamadbefaaGreat
namespace Go.Proofs.YtabmfaamadbefaaGreat
theorem inside_sorted {l : List H3} (ok : ∀ h ∈ l, HOk h) {p : Pt} : Inside (sorted4 l) p ↔ Inside (l ++ frameH) p := by
  have ok2 : ∀ h ∈ l ++ frameH, HOk h := fun h hh => by
    rcases List.mem_append.1 hh with h1 | h1
    · exact ok h h1
    · exact frameH_ok h h1
  have nz : AllNZ (l ++ frameH) := fun x hx => (ok2 x hx).nz
  constructor
  · intro h x hx
    obtain ⟨y, hy, t⟩ := sortH_cover nz hx
    exact Tle.in ((ok2 y (sortH_mem nz hy)).nz) (nz x hx) t (h y hy)
  · intro h x hx
    exact h x (sortH_mem nz hx)
theorem edge_tight {L : List H3} {y g : H3} (hy : y ∈ L) (ky : HOk y) (kg : HOk g) (t : Tle y g) {a : Pt} (hi : Inside L a) (og : On g a) : y = g := by
  refine Tle.antisymm ky.nz kg.nz ky.prim kg.prim t ⟨sameDir_symm t.1, ?_⟩
  have hv := hi y hy
  obtain ⟨ea, eb⟩ := prop_of_sameDir ky.nz kg.nz t.1
  have sy := size_pos ky.nz
  have sg := size_pos kg.nz
  have h1 : val y a * (sizeH g : Rat) = val g a * (sizeH y : Rat) := by
    have ea' : (y.a : Rat) * sizeH g = (g.a : Rat) * sizeH y := by exact_mod_cast ea
    have eb' : (y.b : Rat) * sizeH g = (g.b : Rat) * sizeH y := by exact_mod_cast eb
    unfold val
    grind
  have h2 : (g.c : Rat) * sizeH y ≤ (y.c : Rat) * sizeH g := by
    have h3 : val y a * (sizeH g : Rat) ≤ (y.c : Rat) * sizeH g := Rat.mul_le_mul_of_nonneg_right hv (by exact_mod_cast (Int.le_of_lt sg))
    rw [h1, show val g a = (g.c : Rat) from og] at h3
    exact h3
  exact_mod_cast h2
theorem nodup_sub {α : Type} [DecidableEq α] : ∀ {l m : List α}, l.Nodup → (∀ x ∈ l, x ∈ m) → l.length ≤ m.length
  | [], m, _, _ => Nat.zero_le _
  | x :: l, m, hn, h => by
    have hx := h x List.mem_cons_self
    have hn' := List.nodup_cons.1 hn
    have : l.length ≤ (m.erase x).length := nodup_sub hn'.2 fun y hy => by
      have hyx : y ≠ x := fun e => hn'.1 (e ▸ hy)
      exact (List.mem_erase_of_ne hyx).2 (h y (List.mem_cons_of_mem _ hy))
    have hl := List.length_erase_of_mem hx
    have := List.length_pos_of_mem hx
    simp only [List.length_cons]
    omega
theorem makeE_some {L : List H3} (h : makeE L ≠ []) : makeE L = pickE L L.length := by
  unfold makeE at *
  split
  · rename_i h3; rw [if_pos h3] at h; exact absurd rfl h
  · rfl
theorem meet_edge {p rest : List H3} (okp : ∀ g ∈ p, HOk g) (okr : ∀ g ∈ rest, HOk g) (hp : makeR p = p) (hne : p ≠ []) {g : H3} (hg : g ∈ makeR (p ++ rest)) : g ∈ p ∨ g ∈ rest := by
  have okA : ∀ g ∈ p ++ rest, HOk g := fun x hx => by
    rcases List.mem_append.1 hx with h | h
    · exact okp x h
    · exact okr x h
  have GA := good_sorted okA
  have Gp := good_sorted okp
  have hg' : g ∈ pickE (sorted4 (p ++ rest)) (sorted4 (p ++ rest)).length := by
    unfold makeR makeE at hg
    split at hg
    · cases hg
    · exact hg
  obtain ⟨hgL, a, b, oa, ob, hab, ia, ib⟩ := (pick_mem GA g).1 hg'
  have kg := GA.ok g hgL
  have nzA : AllNZ ((p ++ rest) ++ frameH) := fun x hx => by
    rcases List.mem_append.1 hx with h | h
    · exact (okA x h).nz
    · exact (frameH_ok x h).nz
  have hm := sortH_mem nzA hgL
  rcases List.mem_append.1 hm with h | hf
  · exact List.mem_append.1 h
  · left
    have fp : ∀ {c : Pt}, Inside (sorted4 (p ++ rest)) c → Inside (sorted4 p) c := fun {c} hc => (inside_sorted okp).2 fun x hx => (inside_sorted okA).1 hc x (by
      rcases List.mem_append.1 hx with h | h
      · exact List.mem_append_left _ (List.mem_append_left _ h)
      · exact List.mem_append_right _ h)
    obtain ⟨y, hy, t⟩ := Gp.frame g hf
    have e := edge_tight hy (Gp.ok y hy) kg t (fp ia) oa
    subst e
    have : y ∈ pickE (sorted4 p) (sorted4 p).length := (pick_mem Gp y).2 ⟨hy, a, b, oa, ob, hab, fp ia, fp ib⟩
    rw [← makeE_some (by show makeR p ≠ []; rw [hp]; exact hne)] at this
    rw [← hp]
    exact this
theorem makeR_nodup {l : List H3} (ok : ∀ g ∈ l, HOk g) : (makeR l).Nodup := by
  unfold makeR makeE
  split
  · exact List.nodup_nil
  · refine (pick_sorted (good_sorted ok)).imp fun {x y} h e => ?_
    subst e
    rw [before_irrefl] at h; cases h
theorem meet_few {p rest : List H3} (okp : ∀ g ∈ p, HOk g) (okr : ∀ g ∈ rest, HOk g) (hp : makeR p = p) (hne : p ≠ []) : (makeR (p ++ rest)).length ≤ p.length + rest.length := by
  rw [← List.length_append]
  refine nodup_sub (makeR_nodup fun g hg => ?_) fun g hg => List.mem_append.2 (meet_edge okp okr hp hne hg)
  rcases List.mem_append.1 hg with h | h
  · exact okp g h
  · exact okr g h
end Go.Proofs.YtabmfaamadbefaaGreat
namespace Go.Proofs.YtabmfaamadbefaaGreat
theorem cross_negl (g h : H3) : cross (negH g) h = - cross g h := by unfold cross negH; grind
theorem cross_negr (g h : H3) : cross g (negH h) = - cross g h := by unfold cross negH; grind
theorem nz_neg {h : H3} (n : NZ h) : NZ (negH h) := by unfold NZ negH at *; simp only; omega
/-- e, f in one half, g in the other. -/
theorem turn_late {e f g : H3} (ne : NZ e) (nf : NZ f) (ng : NZ g) (h1 : upB e = upB f) (h2 : upB g = !upB e) (p : 0 < cross e f) (q : 0 < cross e g) : 0 < cross f g := by
  have u : upB (negH g) = upB e := by rw [upB_neg ng, h2, Bool.not_not]
  have r := cross_trans (nz_neg ng) ne nf u h1 (by rw [cross_negl, cross_anti e g]; omega) p
  rw [cross_negl, cross_anti f g] at r; omega
/-- e in one half, f, g in the other. -/
theorem turn_early {e f g : H3} (ne : NZ e) (nf : NZ f) (ng : NZ g) (h1 : upB f = upB g) (h2 : upB f = !upB e) (p : 0 < cross f g) (q : 0 < cross e g) : 0 < cross e f := by
  have u : upB g = upB (negH e) := by rw [upB_neg ne, ← h2, h1]
  have r := cross_trans nf ng (nz_neg ne) h1 u p (by rw [cross_negr, cross_anti e g]; omega)
  rw [cross_negr, cross_anti e f] at r; omega
theorem between_up {e f g : H3} (ne : NZ e) (nf : NZ f) (ng : NZ g) (h1 : before e f = true) (h2 : before f g = true) (h3 : 0 < cross e g) : 0 < cross e f ∧ 0 < cross f g := by
  rcases (before_iff e f).1 h1 with ⟨ue, uf⟩ | ⟨u1, c1⟩
  · rcases (before_iff f g).1 h2 with ⟨uf', _⟩ | ⟨u2, c2⟩
    · rw [uf] at uf'; cases uf'
    · exact ⟨turn_early ne nf ng u2 (by rw [uf, ue]; rfl) c2 h3, c2⟩
  · rcases (before_iff f g).1 h2 with ⟨uf, ug⟩ | ⟨u2, c2⟩
    · exact ⟨c1, turn_late ne nf ng u1 (by rw [ug, u1, uf]; rfl) c1 h3⟩
    · exact ⟨c1, c2⟩
/-- g stands before e in the list, but a left turn leads from e to g: over the end of the list. -/
theorem wrap_halves {e g : H3} (h : before g e = true) (q : 0 < cross e g) : upB g = true ∧ upB e = false := by
  rcases (before_iff g e).1 h with h | ⟨_, c⟩
  · exact h
  · have := cross_anti e g; omega
theorem next_index {l : List H3} (hs : Sorted l) (nz : AllNZ l) {k j : Nat} (hk : k < l.length) (hj : j < l.length) (turn : 0 < cross l[k] l[j]) (none : ∀ f ∈ l, 0 < cross l[k] f → 0 < cross f l[j] → False) : j = (k + 1) % l.length := by
  have nk := nz _ (List.getElem_mem hk)
  have nj := nz _ (List.getElem_mem hj)
  have hjk : j ≠ k := by
    intro e
    subst e
    rw [cross_self] at turn; omega
  by_cases h1 : k + 1 < l.length
  · rw [Nat.mod_eq_of_lt h1]
    have n1 := nz _ (List.getElem_mem h1)
    have b1 := sorted_get hs hk h1 (by omega)
    rcases Nat.lt_trichotomy j (k + 1) with h | h | h
    · exfalso
      have b2 := sorted_get hs hj hk (by omega)
      obtain ⟨uj, uk⟩ := wrap_halves b2 turn
      rcases (before_iff _ _).1 b1 with ⟨h3, _⟩ | ⟨u1, c1⟩
      · rw [uk] at h3; cases h3
      · exact none _ (List.getElem_mem h1) c1 (turn_late nk n1 nj u1 (by rw [uj, uk]; rfl) c1 turn)
    · exact h
    · exfalso
      have b2 := sorted_get hs h1 hj h
      obtain ⟨c1, c2⟩ := between_up nk n1 nj b1 b2 turn
      exact none _ (List.getElem_mem h1) c1 c2
  · have e : k + 1 = l.length := by omega
    rw [e, Nat.mod_self]
    rcases Nat.eq_zero_or_pos j with h0 | h0
    · exact h0
    · exfalso
      have hz : 0 < l.length := by omega
      have n0 := nz _ (List.getElem_mem hz)
      have b2 := sorted_get hs hj hk (by omega)
      obtain ⟨uj, uk⟩ := wrap_halves b2 turn
      have b3 := sorted_get hs hz hj h0
      rcases (before_iff _ _).1 b3 with ⟨_, h3⟩ | ⟨u1, c1⟩
      · rw [uj] at h3; cases h3
      · exact none _ (List.getElem_mem hz) (turn_early nk n0 nj u1 (by rw [u1, uj, uk]; rfl) c1 turn) c1
/-- A valid region with half planes: its list is the list of its own edges. -/
structure Reg (hs : List H3) (L : List H3) : Prop where
  good : Good L
  edges : pickE L L.length = hs
  full : ¬ Void L
theorem reg_of {hs : List H3} (ok : ∀ g ∈ hs, HOk g) (hm : makeR hs = hs) (hne : hs ≠ []) : Reg hs (sorted4 hs) := by
  have G := good_sorted ok
  have e := makeE_some (L := sorted4 hs) (by show makeR hs ≠ []; rw [hm]; exact hne)
  have e2 : pickE (sorted4 hs) (sorted4 hs).length = hs := by rw [← e]; exact hm
  refine ⟨G, e2, fun v => ?_⟩
  have := void_few G v
  have h2 : makeE (sorted4 hs) = [] := if_pos this
  exact hne (hm.symm.trans h2)
theorem Reg.nz {hs L : List H3} (R : Reg hs L) : AllNZ hs := fun x hx => by
  rw [← R.edges] at hx
  exact R.good.nz x ((pick_mem R.good x).1 hx).1
theorem Reg.corner {hs L : List H3} (R : Reg hs L) {k : Nat} (hk : k < hs.length) : ∃ (hj : (k + 1) % hs.length < hs.length) (v : Pt), 0 < cross hs[k] hs[(k + 1) % hs.length] ∧ On hs[k] v ∧ On hs[(k + 1) % hs.length] v ∧ Inside L v := by
  have hj : (k + 1) % hs.length < hs.length := Nat.mod_lt _ (by omega)
  refine ⟨hj, ?_⟩
  have hs0 : Sorted hs := by rw [← R.edges]; exact pick_sorted R.good
  have mem : ∀ x, x ∈ hs ↔ x ∈ L ∧ Edge L x := fun x => by rw [← R.edges]; exact pick_mem R.good x
  obtain ⟨he, ed⟩ := (mem _).1 (List.getElem_mem hk)
  obtain ⟨g, v, n⟩ := next_exists R.good R.full he ed
  obtain ⟨i, hi, rfl⟩ := List.mem_iff_getElem.1 ((mem g).2 ⟨n.mg, n.eg⟩)
  have e := next_index hs0 R.nz hk hi n.turn fun f hf c1 c2 => next_none R.good n he ((mem f).1 hf).1 c1 c2 ((mem f).1 hf).2
  subst e
  exact ⟨v, n.turn, n.oe, n.og, n.iv⟩
/-- The crossing of two neighbours as the program computes it: in the frame, and in the region. -/
theorem Reg.crossing {hs L : List H3} (R : Reg hs L) {k : Nat} (hk : k < hs.length) (hj : (k + 1) % hs.length < hs.length) : 0 < cross hs[k] hs[(k + 1) % hs.length] ∧ insideI L (crossI hs[k] hs[(k + 1) % hs.length]) = true := by
  obtain ⟨_, v, c, o1, o2, i⟩ := R.corner hk
  refine ⟨c, ?_⟩
  have c0 : cross hs[k] hs[(k + 1) % hs.length] ≠ 0 := by omega
  have nk := R.nz _ (List.getElem_mem hk)
  refine (insideI_cross R.good.framed).2 ⟨c0, ?_⟩
  obtain ⟨p1, p2⟩ := cross_on c0
  have : ptOf (crossI hs[k] hs[(k + 1) % hs.length]) = v := pt_eq nk (by unfold On at p1 o1; rw [p1, o1]) (by rw [p2]; exact ((crossT_on nk c0 o1).1 o2).symm)
  rw [this]; exact i
end Go.Proofs.YtabmfaamadbefaaGreat