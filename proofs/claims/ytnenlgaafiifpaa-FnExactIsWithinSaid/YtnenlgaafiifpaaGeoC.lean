/- The program's test of an edge and the reference's, as plain functions, no program: both tell whether a border bears more than one point. Condition: the list is sorted, no direction is zero, and its borders bound it. -/
import Derived.Test.YtnenlgaafiifpaaGeoB
namespace Go.Proofs.Ytnenlgaafiifpaa

abbrev Fr := Int × Int
def fr (m : Fr) : Rat := (m.1 : Rat) / (m.2 : Rat)
/-- -1, 0 or 1: how two fractions with positive denominators compare. -/
def cmpF (a b c d : Int) : Int := if a * d < c * b then -1 else if c * b < a * d then 1 else 0

theorem cmpF_neg {m n : Fr} (hm : 0 < m.2) (hn : 0 < n.2) : cmpF m.1 m.2 n.1 n.2 < 0 ↔ fr m < fr n := by
  have qm : (0 : Rat) < (m.2 : Rat) := by exact_mod_cast hm
  have qn : (0 : Rat) < (n.2 : Rat) := by exact_mod_cast hn
  have key : m.1 * n.2 < n.1 * m.2 ↔ fr m < fr n := by
    have e1 : (m.1 : Rat) = fr m * m.2 := by unfold fr; grind
    have e2 : (n.1 : Rat) = fr n * n.2 := by unfold fr; grind
    have c : m.1 * n.2 < n.1 * m.2 ↔ (m.1 : Rat) * n.2 < (n.1 : Rat) * m.2 := by
      constructor
      · intro h; exact_mod_cast h
      · intro h; exact_mod_cast h
    rw [c, e1, e2]
    have p := Rat.mul_pos qm qn
    constructor
    · intro h
      apply Classical.byContradiction; intro hh
      have := Rat.mul_le_mul_of_nonneg_left (a := fr n) (b := fr m) (c := (m.2 : Rat) * n.2) (by grind) (by grind)
      grind
    · intro h
      have := Rat.mul_pos p (show (0 : Rat) < fr n - fr m by grind)
      grind
  rw [← key]; clear key; unfold cmpF
  split
  · constructor <;> intro <;> omega
  · split <;> constructor <;> intro <;> omega
theorem cmpF_swap (a b c d : Int) : cmpF c d a b = - cmpF a b c d := by
  unfold cmpF; split <;> split <;> (try split) <;> omega
theorem cmpF_pos {m n : Fr} (hm : 0 < m.2) (hn : 0 < n.2) : 0 < cmpF m.1 m.2 n.1 n.2 ↔ fr n < fr m := by
  rw [← cmpF_neg hn hm, cmpF_swap]; omega

def leaves (g h : H3) : Bool := decide (0 < g.c * sizeH h + h.c * sizeH g)

def crossI (h g : H3) : Int × Int × Int :=
  if cross h g < 0 then (-(h.c * g.b - g.c * h.b), -(h.a * g.c - g.a * h.c), -cross h g) else (h.c * g.b - g.c * h.b, h.a * g.c - g.a * h.c, cross h g)
def markI (h g : H3) : Fr := (h.a * (crossI h g).2.1 - h.b * (crossI h g).1, (crossI h g).2.2)

theorem crossI_pos {h g : H3} (k : cross h g ≠ 0) : 0 < (crossI h g).2.2 := by
  unfold crossI; split <;> simp only <;> omega
theorem markI_fr {h g : H3} (k : cross h g ≠ 0) : fr (markI h g) = crossT h g := by
  have kq : (cross h g : Rat) ≠ 0 := by exact_mod_cast k
  unfold fr markI crossT crossI
  rw [nrmQ, dotQ]
  split
  · push_cast; grind
  · push_cast; grind

def upd (later : Bool) (m : Option Fr) (n : Fr) : Option Fr :=
  match m with
  | none => some n
  | some o => if (later && decide (cmpF n.1 n.2 o.1 o.2 ≤ 0)) || (!later && decide (0 ≤ cmpF n.1 n.2 o.1 o.2)) then some o else some n

def IsMin (S : Rat → Prop) : Option Fr → Prop
  | none => ∀ r, ¬ S r
  | some m => 0 < m.2 ∧ S (fr m) ∧ ∀ r, S r → fr m ≤ r
def IsMax (S : Rat → Prop) : Option Fr → Prop
  | none => ∀ r, ¬ S r
  | some m => 0 < m.2 ∧ S (fr m) ∧ ∀ r, S r → r ≤ fr m

theorem upd_min {S : Rat → Prop} {t : Option Fr} {n : Fr} (h : IsMin S t) (hn : 0 < n.2) : IsMin (fun r => S r ∨ r = fr n) (upd false t n) := by
  cases t with
  | none => exact ⟨hn, .inr rfl, fun r hr => by rcases hr with hr | rfl; exact absurd hr (h r); exact Rat.le_refl⟩
  | some o =>
    obtain ⟨h1, h2, h3⟩ := h
    unfold upd
    simp only [Bool.false_and, Bool.false_or, Bool.not_false, Bool.true_and, decide_eq_true_eq]
    split
    · rename_i hc
      have hle : fr o ≤ fr n := by
        have := cmpF_neg hn h1
        apply Classical.byContradiction; intro hh
        have := this.2 (by grind)
        omega
      exact ⟨h1, .inl h2, fun r hr => by rcases hr with hr | rfl; exact h3 r hr; exact hle⟩
    · rename_i hc
      have hlt : fr n < fr o := (cmpF_neg hn h1).1 (by omega)
      exact ⟨hn, .inr rfl, fun r hr => by
        rcases hr with hr | rfl
        · have := h3 r hr; grind
        · exact Rat.le_refl⟩
theorem upd_max {S : Rat → Prop} {t : Option Fr} {n : Fr} (h : IsMax S t) (hn : 0 < n.2) : IsMax (fun r => S r ∨ r = fr n) (upd true t n) := by
  cases t with
  | none => exact ⟨hn, .inr rfl, fun r hr => by rcases hr with hr | rfl; exact absurd hr (h r); exact Rat.le_refl⟩
  | some o =>
    obtain ⟨h1, h2, h3⟩ := h
    unfold upd
    simp only [Bool.true_and, Bool.not_true, Bool.false_and, Bool.or_false, decide_eq_true_eq]
    split
    · rename_i hc
      have hle : fr n ≤ fr o := by
        have := cmpF_pos hn h1
        apply Classical.byContradiction; intro hh
        have := this.2 (by grind)
        omega
      exact ⟨h1, .inl h2, fun r hr => by rcases hr with hr | rfl; exact h3 r hr; exact hle⟩
    · rename_i hc
      have hlt : fr o < fr n := (cmpF_pos hn h1).1 (by omega)
      exact ⟨hn, .inr rfl, fun r hr => by
        rcases hr with hr | rfl
        · have := h3 r hr; grind
        · exact Rat.le_refl⟩
theorem IsMin.congr {S T : Rat → Prop} {t : Option Fr} (h : IsMin S t) (e : ∀ r, S r ↔ T r) : IsMin T t := by
  cases t with
  | none => exact fun r hr => h r ((e r).2 hr)
  | some m => exact ⟨h.1, (e _).1 h.2.1, fun r hr => h.2.2 r ((e r).2 hr)⟩
theorem IsMax.congr {S T : Rat → Prop} {t : Option Fr} (h : IsMax S t) (e : ∀ r, S r ↔ T r) : IsMax T t := by
  cases t with
  | none => exact fun r hr => h r ((e r).2 hr)
  | some m => exact ⟨h.1, (e _).1 h.2.1, fun r hr => h.2.2 r ((e r).2 hr)⟩

/-- One half plane more, in the program's test of an edge; none: there is no room. -/
def stepS (h : H3) (st : Option (Option Fr × Option Fr)) (g : H3) : Option (Option Fr × Option Fr) :=
  match st with
  | none => none
  | some (f, t) => if cross h g = 0 then (if leaves g h then some (f, t) else none) else if 0 < cross h g then some (f, upd false t (markI h g)) else some (upd true f (markI h g), t)
def scanS (h : H3) (l : List H3) : Option (Option Fr × Option Fr) := l.foldl (stepS h) (some (none, none))

def Inv (h : H3) (l : List H3) : Option (Option Fr × Option Fr) → Prop
  | none => ∃ g ∈ l, cross h g = 0 ∧ leaves g h = false
  | some (f, t) => (∀ g ∈ l, cross h g = 0 → leaves g h = true) ∧ IsMax (fun r => ∃ g ∈ l, cross h g < 0 ∧ r = crossT h g) f ∧ IsMin (fun r => ∃ g ∈ l, 0 < cross h g ∧ r = crossT h g) t

theorem inv_step {h : H3} {l : List H3} {st : Option (Option Fr × Option Fr)} (i : Inv h l st) (g : H3) : Inv h (l ++ [g]) (stepS h st g) := by
  cases st with
  | none =>
    obtain ⟨x, hx, e⟩ := i
    exact ⟨x, List.mem_append_left _ hx, e⟩
  | some s =>
    obtain ⟨f, t⟩ := s
    obtain ⟨i1, i2, i3⟩ := i
    unfold stepS
    simp only
    split
    · rename_i k
      split
      · rename_i hl
        refine ⟨fun x hx hk => ?_, i2.congr fun r => ?_, i3.congr fun r => ?_⟩
        · rcases List.mem_append.1 hx with hx | hx
          · exact i1 x hx hk
          · rw [List.mem_singleton.1 hx]; exact hl
        · constructor
          · rintro ⟨x, hx, e⟩; exact ⟨x, List.mem_append_left _ hx, e⟩
          · rintro ⟨x, hx, e⟩
            rcases List.mem_append.1 hx with hx | hx
            · exact ⟨x, hx, e⟩
            · rw [List.mem_singleton.1 hx] at e; omega
        · constructor
          · rintro ⟨x, hx, e⟩; exact ⟨x, List.mem_append_left _ hx, e⟩
          · rintro ⟨x, hx, e⟩
            rcases List.mem_append.1 hx with hx | hx
            · exact ⟨x, hx, e⟩
            · rw [List.mem_singleton.1 hx] at e; omega
      · rename_i hl
        exact ⟨g, by simp, k, by simpa using hl⟩
    · rename_i k
      have par : ∀ x ∈ l ++ [g], cross h x = 0 → leaves x h = true := fun x hx hk => by
        rcases List.mem_append.1 hx with hx | hx
        · exact i1 x hx hk
        · rw [List.mem_singleton.1 hx] at hk; exact absurd hk k
      have mp : 0 < (markI h g).2 := crossI_pos k
      split
      · rename_i kp
        refine ⟨par, i2.congr fun r => ?_, (upd_min i3 mp).congr fun r => ?_⟩
        · constructor
          · rintro ⟨x, hx, e⟩; exact ⟨x, List.mem_append_left _ hx, e⟩
          · rintro ⟨x, hx, e⟩
            rcases List.mem_append.1 hx with hx | hx
            · exact ⟨x, hx, e⟩
            · rw [List.mem_singleton.1 hx] at e; omega
        · rw [markI_fr k]
          constructor
          · rintro (⟨x, hx, e⟩ | rfl)
            · exact ⟨x, List.mem_append_left _ hx, e⟩
            · exact ⟨g, by simp, kp, rfl⟩
          · rintro ⟨x, hx, e⟩
            rcases List.mem_append.1 hx with hx | hx
            · exact .inl ⟨x, hx, e⟩
            · rw [List.mem_singleton.1 hx] at e; exact .inr e.2
      · rename_i kp
        refine ⟨par, (upd_max i2 mp).congr fun r => ?_, i3.congr fun r => ?_⟩
        · rw [markI_fr k]
          constructor
          · rintro (⟨x, hx, e⟩ | rfl)
            · exact ⟨x, List.mem_append_left _ hx, e⟩
            · exact ⟨g, by simp, by omega, rfl⟩
          · rintro ⟨x, hx, e⟩
            rcases List.mem_append.1 hx with hx | hx
            · exact .inl ⟨x, hx, e⟩
            · rw [List.mem_singleton.1 hx] at e; exact .inr e.2
        · constructor
          · rintro ⟨x, hx, e⟩; exact ⟨x, List.mem_append_left _ hx, e⟩
          · rintro ⟨x, hx, e⟩
            rcases List.mem_append.1 hx with hx | hx
            · exact ⟨x, hx, e⟩
            · rw [List.mem_singleton.1 hx] at e; omega

theorem inv_fold {h : H3} : ∀ (r l : List H3) (st : Option (Option Fr × Option Fr)), Inv h l st → Inv h (l ++ r) (r.foldl (stepS h) st) := by
  intro r
  induction r with
  | nil => intro l st i; simpa using i
  | cons g r ih =>
    intro l st i
    have := ih (l ++ [g]) (stepS h st g) (inv_step i g)
    simpa using this
theorem inv_scan (h : H3) (l : List H3) : Inv h l (scanS h l) := by
  have := inv_fold l [] (some (none, none)) (h := h) ⟨fun x hx => (by cases hx), fun r hr => (by obtain ⟨x, hx, _⟩ := hr; cases hx), fun r hr => (by obtain ⟨x, hx, _⟩ := hr; cases hx)⟩
  simpa [scanS] using this

/-! ### Parallel borders that face each other -/
theorem opp_prop {h g : H3} (nh : NZ h) (ng : NZ g) (k : cross h g = 0) (d : sameDir h g = false) : g.a * sizeH h = -h.a * sizeH g ∧ g.b * sizeH h = -h.b * sizeH g := by
  have nn : NZ (negH h) := by unfold NZ negH at *; simp only; omega
  have u : upB (negH h) = upB g := by
    rw [upB_neg nh]
    rw [Bool.eq_false_iff, Ne, sameDir_iff] at d
    cases e1 : upB h <;> cases e2 : upB g <;> simp_all
  have s : sameDir (negH h) g = true := by
    rw [sameDir_iff]
    refine ⟨?_, u⟩
    unfold cross negH; unfold cross at k; simp only; grind
  have sz : sizeH (negH h) = sizeH h := by
    unfold sizeH negH; simp only
    by_cases e : h.a = 0
    · simp [e]; omega
    · have : -h.a ≠ 0 := by omega
      rw [if_pos e, if_pos this]; omega
  obtain ⟨e1, e2⟩ := prop_of_sameDir nn ng s
  rw [sz] at e1 e2
  exact ⟨e1.symm, e2.symm⟩
theorem opp_in {h g : H3} (nh : NZ h) (ng : NZ g) (k : cross h g = 0) (d : sameDir h g = false) {p : Pt} (o : On h p) : In g p ↔ 0 ≤ g.c * sizeH h + h.c * sizeH g := by
  obtain ⟨e1, e2⟩ := opp_prop nh ng k d
  have q1 : (g.a : Rat) * (sizeH h : Rat) = -(h.a : Rat) * (sizeH g : Rat) := by exact_mod_cast e1
  have q2 : (g.b : Rat) * (sizeH h : Rat) = -(h.b : Rat) * (sizeH g : Rat) := by exact_mod_cast e2
  have sp : (0 : Rat) < (sizeH h : Rat) := by exact_mod_cast size_pos nh
  have ev : val g p * (sizeH h : Rat) = -(h.c : Rat) * sizeH g := by unfold On val at o; unfold val; grind
  have c : 0 ≤ g.c * sizeH h + h.c * sizeH g ↔ (0 : Rat) ≤ (g.c : Rat) * sizeH h + (h.c : Rat) * sizeH g := by
    constructor
    · intro x; exact_mod_cast x
    · intro x; exact_mod_cast x
  rw [c]; unfold In
  constructor
  · intro hi
    have := Rat.mul_le_mul_of_nonneg_left (c := (sizeH h : Rat)) hi (by grind)
    grind
  · intro hi
    apply Classical.byContradiction; intro hn
    have := Rat.mul_pos sp (show (0 : Rat) < val g p - g.c by grind)
    grind

/-! ### The test of an edge -/
section
variable {L : List H3} {h : H3} {rest : List H3}
/-- rest: the others. -/
structure Others (L : List H3) (h : H3) (rest : List H3) : Prop where
  mem : ∀ g, g ∈ L ↔ g = h ∨ g ∈ rest
  dir : ∀ g ∈ rest, sameDir h g = false
  nz : ∀ g ∈ L, NZ g

theorem Others.nh (o : Others L h rest) : NZ h := o.nz h ((o.mem h).2 (.inl rfl))
theorem Others.ng (o : Others L h rest) {g : H3} (hg : g ∈ rest) : NZ g := o.nz g ((o.mem g).2 (.inr hg))

theorem inside_iff (o : Others L h rest) {p : Pt} (op : On h p) : Inside L p ↔ (∀ g ∈ rest, cross h g = 0 → 0 ≤ g.c * sizeH h + h.c * sizeH g) ∧ (∀ g ∈ rest, 0 < cross h g → prm h p ≤ crossT h g) ∧ (∀ g ∈ rest, cross h g < 0 → crossT h g ≤ prm h p) := by
  constructor
  · intro hi
    refine ⟨fun g hg k => (opp_in o.nh (o.ng hg) k (o.dir g hg) op).1 (hi g ((o.mem g).2 (.inr hg))), fun g hg k => (in_iff_pos o.nh k op).1 (hi g ((o.mem g).2 (.inr hg))), fun g hg k => (in_iff_neg o.nh k op).1 (hi g ((o.mem g).2 (.inr hg)))⟩
  · rintro ⟨h1, h2, h3⟩ g hg
    rcases (o.mem g).1 hg with rfl | hg
    · exact op.in
    · rcases Int.lt_trichotomy (cross h g) 0 with k | k | k
      · exact (in_iff_neg o.nh k op).2 (h3 g hg k)
      · exact (opp_in o.nh (o.ng hg) k (o.dir g hg) op).2 (h1 g hg k)
      · exact (in_iff_pos o.nh k op).2 (h2 g hg k)

theorem edge_iff (o : Others L h rest) {f t : Fr} (hf : IsMax (fun r => ∃ g ∈ rest, cross h g < 0 ∧ r = crossT h g) (some f)) (ht : IsMin (fun r => ∃ g ∈ rest, 0 < cross h g ∧ r = crossT h g) (some t)) :
    Edge L h ↔ fr f < fr t ∧ ∀ g ∈ rest, cross h g = 0 → 0 ≤ g.c * sizeH h + h.c * sizeH g := by
  obtain ⟨_, ⟨gf, gf1, gf2, gf3⟩, f3⟩ := hf
  obtain ⟨_, ⟨gt, gt1, gt2, gt3⟩, t3⟩ := ht
  constructor
  · rintro ⟨p, q, op, oq, hlt, ip, iq⟩
    obtain ⟨a1, a2, a3⟩ := (inside_iff o op).1 ip
    obtain ⟨b1, b2, b3⟩ := (inside_iff o oq).1 iq
    refine ⟨?_, a1⟩
    have := a3 gf gf1 gf2
    have := b2 gt gt1 gt2
    grind
  · rintro ⟨hlt, hpar⟩
    refine ⟨ptAt h (fr f), ptAt h (fr t), ptAt_on o.nh _, ptAt_on o.nh _, by rw [ptAt_prm o.nh, ptAt_prm o.nh]; exact hlt, ?_, ?_⟩
    · rw [inside_iff o (ptAt_on o.nh _), ptAt_prm o.nh]
      exact ⟨hpar, fun g hg k => by have := t3 _ ⟨g, hg, k, rfl⟩; grind, fun g hg k => f3 _ ⟨g, hg, k, rfl⟩⟩
    · rw [inside_iff o (ptAt_on o.nh _), ptAt_prm o.nh]
      exact ⟨hpar, fun g hg k => t3 _ ⟨g, hg, k, rfl⟩, fun g hg k => by have := f3 _ ⟨g, hg, k, rfl⟩; grind⟩

/-- The border of h is bounded on both sides. -/
def Both (h : H3) (rest : List H3) : Prop := (∃ g ∈ rest, cross h g < 0) ∧ ∃ g ∈ rest, 0 < cross h g

theorem edge_scan (o : Others L h rest) (b : Both h rest) :
    (scanS h rest = none ∧ ∃ g ∈ rest, cross h g = 0 ∧ leaves g h = false) ∨ ∃ f t, scanS h rest = some (some f, some t) ∧ (∀ g ∈ rest, cross h g = 0 → leaves g h = true) ∧ 0 < f.2 ∧ 0 < t.2 ∧ (Edge L h ↔ cmpF f.1 f.2 t.1 t.2 < 0) := by
  have i := inv_scan h rest
  generalize scanS h rest = st at i
  match st, i with
  | none, i => exact .inl ⟨rfl, i⟩
  | some (none, _), i => obtain ⟨⟨g, hg, k⟩, _⟩ := b; exact absurd ⟨g, hg, k, rfl⟩ (i.2.1 (crossT h g))
  | some (some f, none), i => obtain ⟨_, g, hg, k⟩ := b; exact absurd ⟨g, hg, k, rfl⟩ (i.2.2 (crossT h g))
  | some (some f, some t), i =>
    refine .inr ⟨f, t, rfl, i.1, i.2.1.1, i.2.2.1, ?_⟩
    rw [edge_iff o i.2.1 i.2.2, cmpF_neg i.2.1.1 i.2.2.1]
    refine ⟨fun x => x.1, fun x => ⟨x, fun g hg k => ?_⟩⟩
    have := i.1 g hg k
    unfold leaves at this
    simp at this; omega
end
end Go.Proofs.Ytnenlgaafiifpaa
