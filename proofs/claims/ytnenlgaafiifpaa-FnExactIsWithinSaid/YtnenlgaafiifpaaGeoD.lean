/- The reference's test of an edge, as a plain function, no program: it too tells whether a border bears more than one point. Condition: the list is sorted, holds only valid half planes, and lies within the frame. -/
import Derived.Test.YtnenlgaafiifpaaGeoC
namespace Go.Proofs.Ytnenlgaafiifpaa

abbrev P3 := Int × Int × Int
def ptOf (p : P3) : Pt := ⟨(p.1 : Rat) / (p.2.2 : Rat), (p.2.1 : Rat) / (p.2.2 : Rat)⟩

def spotOk (x y d : Int) : Bool := inR d 1 5000000000 && inR x (-1000 * d) (1000 * d) && inR y (-1000 * d) (1000 * d) && decide (gcdL [x, y, d] = 1)
/-- SpotOf: its value, and whether there is one. -/
def spotOf (x y d : Int) : P3 × Bool :=
  if d ≤ 0 ∨ x = -9223372036854775808 ∨ y = -9223372036854775808 then ((0, 0, 0), false)
  else if spotOk (x / (gcdL [x, y, d] : Int)) (y / (gcdL [x, y, d] : Int)) (d / (gcdL [x, y, d] : Int)) then ((x / (gcdL [x, y, d] : Int), y / (gcdL [x, y, d] : Int), d / (gcdL [x, y, d] : Int)), true)
  else ((0, 0, 0), false)

def inFrameI (p : P3) : Prop := -1000 * p.2.2 ≤ p.1 ∧ p.1 ≤ 1000 * p.2.2 ∧ -1000 * p.2.2 ≤ p.2.1 ∧ p.2.1 ≤ 1000 * p.2.2

theorem gcdL3_dvd (x y d : Int) : (gcdL [x, y, d] : Int) ∣ x ∧ (gcdL [x, y, d] : Int) ∣ y ∧ (gcdL [x, y, d] : Int) ∣ d := by
  rw [gcdL3]
  have h1 : Nat.gcd (Nat.gcd x.natAbs y.natAbs) d.natAbs ∣ x.natAbs := Nat.dvd_trans (Nat.gcd_dvd_left _ _) (Nat.gcd_dvd_left _ _)
  have h2 : Nat.gcd (Nat.gcd x.natAbs y.natAbs) d.natAbs ∣ y.natAbs := Nat.dvd_trans (Nat.gcd_dvd_left _ _) (Nat.gcd_dvd_right _ _)
  have h3 : Nat.gcd (Nat.gcd x.natAbs y.natAbs) d.natAbs ∣ d.natAbs := Nat.gcd_dvd_right _ _
  exact ⟨Int.natAbs_dvd_natAbs.1 (by simpa using h1), Int.natAbs_dvd_natAbs.1 (by simpa using h2), Int.natAbs_dvd_natAbs.1 (by simpa using h3)⟩
theorem gcdL3_pos {x y d : Int} (hd : d ≠ 0) : 0 < gcdL [x, y, d] := by
  rw [gcdL3]; exact Nat.gcd_pos_of_pos_right _ (by omega)

/-- The parts in lowest terms. -/
theorem reduced {x y d : Int} (hd : 0 < d) : ∃ (g : Nat) (a b c : Int), gcdL [x, y, d] = g ∧ 0 < g ∧ x = a * g ∧ y = b * g ∧ d = c * g ∧ x / (g : Int) = a ∧ y / (g : Int) = b ∧ d / (g : Int) = c ∧ gcdL [a, b, c] = 1 ∧ 0 < c := by
  obtain ⟨h1, h2, h3⟩ := gcdL3_dvd x y d
  have hg := gcdL3_pos (x := x) (y := y) (d := d) (by omega)
  generalize hgg : gcdL [x, y, d] = g at *
  obtain ⟨a, ea⟩ := h1
  obtain ⟨b, eb⟩ := h2
  obtain ⟨c, ec⟩ := h3
  have gz : (g : Int) ≠ 0 := by omega
  have dv : ∀ z : Int, (g : Int) * z / (g : Int) = z := fun z => Int.mul_ediv_cancel_left z gz
  refine ⟨g, a, b, c, rfl, hg, by rw [ea, Int.mul_comm], by rw [eb, Int.mul_comm], by rw [ec, Int.mul_comm], by rw [ea, dv], by rw [eb, dv], by rw [ec, dv], ?_, ?_⟩
  · have e := gcdL3_mul g a b c
    rw [Int.mul_comm a, Int.mul_comm b, Int.mul_comm c, ← ea, ← eb, ← ec, hgg] at e
    simp only [Int.natAbs_natCast] at e
    have : (1 : Nat) * g = gcdL [a, b, c] * g := by omega
    exact (Nat.eq_of_mul_eq_mul_right hg this).symm
  · apply Classical.byContradiction; intro hn
    have := Int.mul_nonpos_of_nonneg_of_nonpos (a := (g : Int)) (b := c) (by omega) (by omega)
    omega

theorem spotOf_frame {p : P3} (hd : 0 < p.2.2) (hb : p.2.2 ≤ 5000000000) (hf : inFrameI p) :
    ∃ (g : Nat) (a b c : Int), 0 < g ∧ p = (a * g, b * g, c * g) ∧ spotOf p.1 p.2.1 p.2.2 = ((a, b, c), true) ∧ gcdL [a, b, c] = 1 ∧ 0 < c ∧ spotOk a b c = true := by
  obtain ⟨x, y, d⟩ := p
  simp only at hd hb
  obtain ⟨h1, h2, h3, h4⟩ := hf
  simp only at h1 h2 h3 h4
  obtain ⟨g, a, b, c, hg, g0, ex, ey, ed, dx, dy, dd, hp, hc⟩ := reduced (x := x) (y := y) hd
  have gq : (0 : Int) < g := by omega
  have le : ∀ s t : Int, s * g ≤ t * g → s ≤ t := fun s t h => Int.le_of_mul_le_mul_right h gq
  have cb : c ≤ 5000000000 := by
    have : c * 1 ≤ c * g := Int.mul_le_mul_of_nonneg_left (by omega) (by omega)
    omega
  have ok : spotOk a b c = true := by
    simp only [spotOk, inR, Bool.and_eq_true, decide_eq_true_eq]
    refine ⟨⟨⟨⟨by omega, cb⟩, ⟨le _ _ (by rw [← ex, Int.mul_assoc, ← ed]; exact h1), le _ _ (by rw [← ex, Int.mul_assoc, ← ed]; exact h2)⟩⟩, ⟨le _ _ (by rw [← ey, Int.mul_assoc, ← ed]; exact h3), le _ _ (by rw [← ey, Int.mul_assoc, ← ed]; exact h4)⟩⟩, hp⟩
  refine ⟨g, a, b, c, g0, by rw [ex, ey, ed], ?_, hp, hc, ok⟩
  simp only
  unfold spotOf
  rw [if_neg (by omega), hg, dx, dy, dd, if_pos ok]

theorem spotOf_eq_iff {p q : P3} (hp : 0 < p.2.2) (hpb : p.2.2 ≤ 5000000000) (hpf : inFrameI p) (hq : 0 < q.2.2) (hqb : q.2.2 ≤ 5000000000) (hqf : inFrameI q) :
    (spotOf p.1 p.2.1 p.2.2).1 = (spotOf q.1 q.2.1 q.2.2).1 ↔ ptOf p = ptOf q := by
  obtain ⟨g, a, b, c, g0, ep, sp, pp, cp, _⟩ := spotOf_frame hp hpb hpf
  obtain ⟨g', a', b', c', g0', eq, sq, pq, cq, _⟩ := spotOf_frame hq hqb hqf
  rw [sp, sq]
  have gq : (g : Rat) ≠ 0 := by have : (0 : Rat) < (g : Rat) := by exact_mod_cast g0
                                grind
  have gq' : (g' : Rat) ≠ 0 := by have : (0 : Rat) < (g' : Rat) := by exact_mod_cast g0'
                                  grind
  have c0 : (c : Rat) ≠ 0 := by have : (0 : Rat) < (c : Rat) := by exact_mod_cast cp
                                grind
  have c0' : (c' : Rat) ≠ 0 := by have : (0 : Rat) < (c' : Rat) := by exact_mod_cast cq
                                  grind
  have e1 : ptOf p = ⟨(a : Rat) / c, (b : Rat) / c⟩ := by
    rw [ep]; unfold ptOf; simp only [Pt.mk.injEq]; push_cast; constructor <;> grind
  have e2 : ptOf q = ⟨(a' : Rat) / c', (b' : Rat) / c'⟩ := by
    rw [eq]; unfold ptOf; simp only [Pt.mk.injEq]; push_cast; constructor <;> grind
  rw [e1, e2]
  simp only [Prod.mk.injEq, Pt.mk.injEq]
  constructor
  · rintro ⟨rfl, rfl, rfl⟩; exact ⟨rfl, rfl⟩
  · rintro ⟨h1, h2⟩
    have k1 : (a : Rat) * c' = a' * c := by grind
    have k2 : (b : Rat) * c' = b' * c := by grind
    have i1 : a * c' = a' * c := by exact_mod_cast k1
    have i2 : b * c' = b' * c := by exact_mod_cast k2
    have := prim_unique (g := ⟨a, b, c⟩) (h := ⟨a', b', c'⟩) c' c cq cp pp pq i1 i2 (Int.mul_comm _ _)
    simpa using this

def insideI (L : List H3) (p : P3) : Bool :=
  !(decide (p.2.2 = 0) || decide (1000 * p.2.2 < p.1) || decide (p.1 < -1000 * p.2.2) || decide (1000 * p.2.2 < p.2.1) || decide (p.2.1 < -1000 * p.2.2)) && L.all fun g => decide (g.a * p.1 + g.b * p.2.1 ≤ g.c * p.2.2)

theorem insideI_iff (L : List H3) (p : P3) : insideI L p = true ↔ p.2.2 ≠ 0 ∧ inFrameI p ∧ ∀ g ∈ L, g.a * p.1 + g.b * p.2.1 ≤ g.c * p.2.2 := by
  unfold insideI inFrameI
  simp only [Bool.and_eq_true, Bool.not_eq_true', Bool.or_eq_false_iff, decide_eq_false_iff_not, List.all_eq_true, decide_eq_true_eq]
  constructor
  · rintro ⟨⟨⟨⟨⟨h1, h2⟩, h3⟩, h4⟩, h5⟩, h6⟩; exact ⟨h1, ⟨by omega, by omega, by omega, by omega⟩, h6⟩
  · rintro ⟨h1, ⟨h2, h3, h4, h5⟩, h6⟩; exact ⟨⟨⟨⟨⟨h1, by omega⟩, by omega⟩, by omega⟩, by omega⟩, h6⟩

theorem in_ptOf (g : H3) {p : P3} (hd : 0 < p.2.2) : In g (ptOf p) ↔ g.a * p.1 + g.b * p.2.1 ≤ g.c * p.2.2 := by
  have dq : (0 : Rat) < (p.2.2 : Rat) := by exact_mod_cast hd
  have c : g.a * p.1 + g.b * p.2.1 ≤ g.c * p.2.2 ↔ (g.a : Rat) * p.1 + (g.b : Rat) * p.2.1 ≤ (g.c : Rat) * p.2.2 := by
    constructor <;> intro h <;> exact_mod_cast h
  have e : val g (ptOf p) * p.2.2 = (g.a : Rat) * p.1 + (g.b : Rat) * p.2.1 := by unfold val ptOf; grind
  rw [c, ← e]; unfold In
  constructor
  · intro h
    have := Rat.mul_le_mul_of_nonneg_left (c := (p.2.2 : Rat)) h (by grind)
    grind
  · intro h
    apply Classical.byContradiction; intro hn
    have := Rat.mul_pos dq (show (0 : Rat) < val g (ptOf p) - g.c by grind)
    grind

theorem cross_on {h g : H3} (k : cross h g ≠ 0) : On h (ptOf (crossI h g)) ∧ prm h (ptOf (crossI h g)) = crossT h g := by
  have kq : (cross h g : Rat) ≠ 0 := by exact_mod_cast k
  have dp := crossI_pos k
  have dq : ((crossI h g).2.2 : Rat) ≠ 0 := by have : (0 : Rat) < ((crossI h g).2.2 : Rat) := by exact_mod_cast dp
                                               grind
  constructor
  · have e : h.a * (crossI h g).1 + h.b * (crossI h g).2.1 = h.c * (crossI h g).2.2 := by
      unfold crossI; split <;> simp only [cross] <;> grind
    have eq : (h.a : Rat) * (crossI h g).1 + (h.b : Rat) * (crossI h g).2.1 = (h.c : Rat) * (crossI h g).2.2 := by exact_mod_cast e
    unfold On val ptOf; simp only; grind
  · rw [← markI_fr k]; unfold prm ptOf fr markI; push_cast; grind

/-- Valid half planes. -/
structure HOk (h : H3) : Prop where
  ba : -50000 ≤ h.a ∧ h.a ≤ 50000
  bb : -50000 ≤ h.b ∧ h.b ≤ 50000
  bc : -100000000 ≤ h.c ∧ h.c ≤ 100000000
  nz : NZ h
  prim : Prim h

theorem mul_bd {x y A B : Int} (hx : -A ≤ x ∧ x ≤ A) (hy : -B ≤ y ∧ y ≤ B) : -(A * B) ≤ x * y ∧ x * y ≤ A * B := by
  have a0 : 0 ≤ A := by omega
  have b0 : 0 ≤ B := by omega
  have h1 : 0 ≤ (A - x) * (B + y) := Int.mul_nonneg (by omega) (by omega)
  have h2 : 0 ≤ (A + x) * (B - y) := Int.mul_nonneg (by omega) (by omega)
  have h3 : 0 ≤ (A - x) * (B - y) := Int.mul_nonneg (by omega) (by omega)
  have h4 : 0 ≤ (A + x) * (B + y) := Int.mul_nonneg (by omega) (by omega)
  constructor <;> grind
theorem cross_bd {g h : H3} (hg : HOk g) (hh : HOk h) : -5000000000 ≤ cross g h ∧ cross g h ≤ 5000000000 := by
  have := mul_bd hg.ba hh.bb
  have := mul_bd hg.bb hh.ba
  unfold cross; omega
theorem crossI_bd {h g : H3} (hh : HOk h) (hg : HOk g) : (crossI h g).2.2 ≤ 5000000000 := by
  have := cross_bd hh hg
  unfold crossI; split <;> simp only <;> omega

/-- One half plane more, in the reference's test of an edge. -/
def stepE (L : List H3) (h : H3) (st : Option P3 × Bool) (g : H3) : Option P3 × Bool :=
  if st.2 then st
  else if insideI L (crossI h g) then
    match st.1 with
    | none => (some (crossI h g), false)
    | some q => (some q, decide ((spotOf q.1 q.2.1 q.2.2).1 ≠ (spotOf (crossI h g).1 (crossI h g).2.1 (crossI h g).2.2).1))
  else st
def scanE (L : List H3) (h : H3) (l : List H3) : Option P3 × Bool := l.foldl (stepE L h) (none, false)

def sp (p : P3) : P3 := (spotOf p.1 p.2.1 p.2.2).1

def InvE (L : List H3) (h : H3) (l : List H3) : Option P3 × Bool → Prop
  | (none, false) => ∀ g ∈ l, insideI L (crossI h g) = false
  | (some q, false) => (∃ g ∈ l, insideI L (crossI h g) = true ∧ q = crossI h g) ∧ ∀ g ∈ l, insideI L (crossI h g) = true → sp (crossI h g) = sp q
  | (_, true) => ∃ g ∈ l, ∃ g' ∈ l, insideI L (crossI h g) = true ∧ insideI L (crossI h g') = true ∧ sp (crossI h g) ≠ sp (crossI h g')

theorem invE_step {L : List H3} {h : H3} {l : List H3} {st : Option P3 × Bool} (i : InvE L h l st) (g : H3) : InvE L h (l ++ [g]) (stepE L h st g) := by
  unfold stepE
  match st, i with
  | (o, true), i =>
    simp only [if_true]
    have i' : ∃ g ∈ l, ∃ g' ∈ l, insideI L (crossI h g) = true ∧ insideI L (crossI h g') = true ∧ sp (crossI h g) ≠ sp (crossI h g') := by cases o <;> exact i
    obtain ⟨x, hx, y, hy, e⟩ := i'
    have r : ∃ g' ∈ l ++ [g], ∃ g'' ∈ l ++ [g], insideI L (crossI h g') = true ∧ insideI L (crossI h g'') = true ∧ sp (crossI h g') ≠ sp (crossI h g'') := ⟨x, List.mem_append_left _ hx, y, List.mem_append_left _ hy, e⟩
    cases o <;> exact r
  | (none, false), i =>
    have i' : ∀ g ∈ l, insideI L (crossI h g) = false := i
    simp only [Bool.false_eq_true, if_false]
    split
    · rename_i hi
      refine ⟨⟨g, by simp, hi, rfl⟩, fun x hx hxi => ?_⟩
      rcases List.mem_append.1 hx with hx | hx
      · rw [i' x hx] at hxi; cases hxi
      · rw [List.mem_singleton.1 hx]
    · rename_i hi
      show ∀ x ∈ l ++ [g], insideI L (crossI h x) = false
      intro x hx
      rcases List.mem_append.1 hx with hx | hx
      · exact i' x hx
      · rw [List.mem_singleton.1 hx]; simpa using hi
  | (some q, false), i =>
    obtain ⟨⟨x, hx, hxi, eq⟩, i2⟩ := i
    simp only [Bool.false_eq_true, if_false]
    split
    · rename_i hi
      by_cases hd : (spotOf q.1 q.2.1 q.2.2).1 ≠ (spotOf (crossI h g).1 (crossI h g).2.1 (crossI h g).2.2).1
      · rw [decide_eq_true hd]
        exact ⟨x, List.mem_append_left _ hx, g, by simp, hxi, hi, by rw [← eq]; exact hd⟩
      · rw [decide_eq_false hd]
        refine ⟨⟨x, List.mem_append_left _ hx, hxi, eq⟩, fun y hy hyi => ?_⟩
        rcases List.mem_append.1 hy with hy | hy
        · exact i2 y hy hyi
        · rw [List.mem_singleton.1 hy]; exact (Classical.not_not.1 hd).symm
    · rename_i hi
      refine ⟨⟨x, List.mem_append_left _ hx, hxi, eq⟩, fun y hy hyi => ?_⟩
      rcases List.mem_append.1 hy with hy | hy
      · exact i2 y hy hyi
      · rw [List.mem_singleton.1 hy] at hyi; exact absurd hyi hi
theorem invE_fold {L : List H3} {h : H3} : ∀ (r l : List H3) (st : Option P3 × Bool), InvE L h l st → InvE L h (l ++ r) (r.foldl (stepE L h) st) := by
  intro r
  induction r with
  | nil => intro l st i; simpa using i
  | cons g r ih =>
    intro l st i
    have := ih (l ++ [g]) (stepE L h st g) (invE_step i g)
    simpa using this
theorem invE_scan (L : List H3) (h : H3) (l : List H3) : InvE L h l (scanE L h l) := by
  have := invE_fold l [] (none, false) (L := L) (h := h) (fun x hx => by cases hx)
  simpa [scanE] using this

/-- All points of the list lie within the frame. -/
def Framed (L : List H3) : Prop := ∀ p, Inside L p → -1000 ≤ p.x ∧ p.x ≤ 1000 ∧ -1000 ≤ p.y ∧ p.y ≤ 1000

section
variable {L : List H3} {h : H3} {rest : List H3}

theorem insideI_cross {g : H3} (fr : Framed L) : insideI L (crossI h g) = true ↔ cross h g ≠ 0 ∧ Inside L (ptOf (crossI h g)) := by
  rw [insideI_iff]
  constructor
  · rintro ⟨h1, _, h3⟩
    have k : cross h g ≠ 0 := by
      intro k; apply h1; unfold crossI; rw [k]; simp
    exact ⟨k, fun x hx => (in_ptOf x (crossI_pos k)).2 (h3 x hx)⟩
  · rintro ⟨k, hi⟩
    have dp := crossI_pos k
    refine ⟨by omega, ?_, fun x hx => (in_ptOf x dp).1 (hi x hx)⟩
    obtain ⟨f1, f2, f3, f4⟩ := fr _ hi
    have b1 := (in_ptOf ⟨-1, 0, 1000⟩ (p := crossI h g) dp).1 (by unfold In val; push_cast; grind)
    have b2 := (in_ptOf ⟨1, 0, 1000⟩ (p := crossI h g) dp).1 (by unfold In val; push_cast; grind)
    have b3 := (in_ptOf ⟨0, -1, 1000⟩ (p := crossI h g) dp).1 (by unfold In val; push_cast; grind)
    have b4 := (in_ptOf ⟨0, 1, 1000⟩ (p := crossI h g) dp).1 (by unfold In val; push_cast; grind)
    simp only at b1 b2 b3 b4
    exact ⟨by omega, by omega, by omega, by omega⟩

theorem sp_differ (o : Others L h rest) (ok : ∀ g ∈ L, HOk g) (fr : Framed L) {g g' : H3} (hg : g ∈ rest) (hg' : g' ∈ rest) (i : insideI L (crossI h g) = true) (i' : insideI L (crossI h g') = true) :
    sp (crossI h g) = sp (crossI h g') ↔ crossT h g = crossT h g' := by
  have k := ((insideI_cross fr).1 i).1
  have k' := ((insideI_cross fr).1 i').1
  have hh : HOk h := ok h ((o.mem h).2 (.inl rfl))
  have e := spotOf_eq_iff (crossI_pos k) (crossI_bd hh (ok g ((o.mem g).2 (.inr hg)))) ((insideI_iff _ _).1 i).2.1 (crossI_pos k') (crossI_bd hh (ok g' ((o.mem g').2 (.inr hg')))) ((insideI_iff _ _).1 i').2.1
  unfold sp; rw [e]
  obtain ⟨o1, t1⟩ := cross_on k
  obtain ⟨o2, t2⟩ := cross_on k'
  rw [← t1, ← t2]
  constructor
  · intro x; rw [x]
  · intro x
    refine pt_eq o.nh ?_ x
    unfold On at o1 o2; rw [o1, o2]

theorem scanE_edge (o : Others L h rest) (b : Both h rest) (ok : ∀ g ∈ L, HOk g) (fr : Framed L) : (scanE L h rest).2 = true ↔ Edge L h := by
  -- the ends of the border, the parallel ones left out
  have i := inv_scan h (rest.filter fun g => decide (cross h g ≠ 0))
  have mf : ∀ g, g ∈ rest.filter (fun g => decide (cross h g ≠ 0)) ↔ g ∈ rest ∧ cross h g ≠ 0 := fun g => by simp
  have ends : ∃ f t, IsMax (fun r => ∃ g ∈ rest, cross h g < 0 ∧ r = crossT h g) (some f) ∧ IsMin (fun r => ∃ g ∈ rest, 0 < cross h g ∧ r = crossT h g) (some t) := by
    generalize scanS h (rest.filter fun g => decide (cross h g ≠ 0)) = st at i
    match st, i with
    | none, i =>
      obtain ⟨g, hg, k, _⟩ := i
      exact absurd k ((mf g).1 hg).2
    | some (f, t), i =>
      have i2 : IsMax (fun r => ∃ g ∈ rest, cross h g < 0 ∧ r = crossT h g) f := i.2.1.congr fun r => by
        constructor
        · rintro ⟨g, hg, e⟩; exact ⟨g, ((mf g).1 hg).1, e⟩
        · rintro ⟨g, hg, k, e⟩; exact ⟨g, (mf g).2 ⟨hg, by omega⟩, k, e⟩
      have i3 : IsMin (fun r => ∃ g ∈ rest, 0 < cross h g ∧ r = crossT h g) t := i.2.2.congr fun r => by
        constructor
        · rintro ⟨g, hg, e⟩; exact ⟨g, ((mf g).1 hg).1, e⟩
        · rintro ⟨g, hg, k, e⟩; exact ⟨g, (mf g).2 ⟨hg, by omega⟩, k, e⟩
      match f, t, i2, i3 with
      | none, _, i2, _ => obtain ⟨⟨g, hg, k⟩, _⟩ := b; exact absurd ⟨g, hg, k, rfl⟩ (i2 (crossT h g))
      | some f, none, _, i3 => obtain ⟨_, g, hg, k⟩ := b; exact absurd ⟨g, hg, k, rfl⟩ (i3 (crossT h g))
      | some f, some t, i2, i3 => exact ⟨f, t, i2, i3⟩
  obtain ⟨f, t, hf, ht⟩ := ends
  have ie := invE_scan L h rest
  constructor
  · intro ht2
    generalize scanE L h rest = st at ie ht2
    obtain ⟨q, v⟩ := st
    simp only at ht2; subst ht2
    have ie' : ∃ g ∈ rest, ∃ g' ∈ rest, insideI L (crossI h g) = true ∧ insideI L (crossI h g') = true ∧ sp (crossI h g) ≠ sp (crossI h g') := by cases q <;> exact ie
    obtain ⟨g, hg, g', hg', i1, i2, hne⟩ := ie'
    rw [Ne, sp_differ o ok fr hg hg' i1 i2] at hne
    obtain ⟨k1, s1⟩ := (insideI_cross fr).1 i1
    obtain ⟨k2, s2⟩ := (insideI_cross fr).1 i2
    obtain ⟨o1, t1⟩ := cross_on k1
    obtain ⟨o2, t2⟩ := cross_on k2
    by_cases hlt : crossT h g < crossT h g'
    · exact ⟨_, _, o1, o2, by rw [t1, t2]; exact hlt, s1, s2⟩
    · exact ⟨_, _, o2, o1, by rw [t1, t2]; grind, s2, s1⟩
  · intro he
    obtain ⟨hlt, hpar⟩ := (edge_iff o hf ht).1 he
    obtain ⟨_, ⟨gf, gf1, gf2, gf3⟩, f3⟩ := hf
    obtain ⟨_, ⟨gt, gt1, gt2, gt3⟩, t3⟩ := ht
    have kf : cross h gf ≠ 0 := by omega
    have kt : cross h gt ≠ 0 := by omega
    obtain ⟨of, tf⟩ := cross_on kf
    obtain ⟨ot, tt⟩ := cross_on kt
    have inf : insideI L (crossI h gf) = true := by
      refine (insideI_cross fr).2 ⟨kf, (inside_iff o of).2 ⟨hpar, fun g hg k => ?_, fun g hg k => ?_⟩⟩
      · rw [tf, ← gf3]; have := t3 _ ⟨g, hg, k, rfl⟩; grind
      · rw [tf, ← gf3]; exact f3 _ ⟨g, hg, k, rfl⟩
    have int : insideI L (crossI h gt) = true := by
      refine (insideI_cross fr).2 ⟨kt, (inside_iff o ot).2 ⟨hpar, fun g hg k => ?_, fun g hg k => ?_⟩⟩
      · rw [tt, ← gt3]; exact t3 _ ⟨g, hg, k, rfl⟩
      · rw [tt, ← gt3]; have := f3 _ ⟨g, hg, k, rfl⟩; grind
    have hne : sp (crossI h gf) ≠ sp (crossI h gt) := by
      rw [Ne, sp_differ o ok fr gf1 gt1 inf int, ← gf3, ← gt3]; grind
    generalize scanE L h rest = st at ie
    match st, ie with
    | (none, false), ie => have := ie gf gf1; rw [inf] at this; cases this
    | (some q, false), ie => exact absurd ((ie.2 gf gf1 inf).trans (ie.2 gt gt1 int).symm) hne
    | (_, true), _ => rfl
end
end Go.Proofs.Ytnenlgaafiifpaa
