/- Plain: regions as sets of points of the plane; a region lies in another one exactly if its set does; two regions with the same set are the same. No program. -/
import Derived.Test.YtabmfaamadbefaaGreatFi
import Derived.Test.YtabmfaamadbefaaGreatGp
set_option linter.unusedSimpArgs false
set_option linter.unusedVariables false
set_option linter.unusedSectionVars false
namespace Go.Proofs.YtabmfaamadbefaaGreat
open Go.RowKit
def NbP (x : Pt) (r : Rat) (y : Pt) : Prop := x.x - r ≤ y.x ∧ y.x ≤ x.x + r ∧ x.y - r ≤ y.y ∧ y.y ≤ x.y + r
def FatP (A : Pt → Prop) : Prop := ∃ x r, 0 < r ∧ ∀ y, NbP x r y → A y
def regP (A : Pt → Prop) (x : Pt) : Prop := FatP A ∧ A x
def setR (p : List H3) (x : Pt) : Prop := p ≠ [] ∧ Inside p x
theorem NbP.self {x : Pt} {r : Rat} (h : 0 < r) : NbP x r x := by unfold NbP; grind
theorem FatP.mono {A B : Pt → Prop} (h : ∀ x, A x → B x) (f : FatP A) : FatP B := by
  obtain ⟨x, r, r0, hr⟩ := f
  exact ⟨x, r, r0, fun y hy => h y (hr y hy)⟩
theorem FatP.some {A : Pt → Prop} (f : FatP A) : ∃ x, A x := by
  obtain ⟨x, r, r0, hr⟩ := f
  exact ⟨x, hr x (NbP.self r0)⟩
theorem regP_mono {A B : Pt → Prop} (h : ∀ x, A x → B x) {x : Pt} (r : regP A x) : regP B x := ⟨r.1.mono h, h x r.2⟩
theorem regP_congr {A B : Pt → Prop} (h : ∀ x, A x ↔ B x) {x : Pt} : regP A x ↔ regP B x := ⟨regP_mono fun x => (h x).1, regP_mono fun x => (h x).2⟩
theorem regP_none {A : Pt → Prop} (h : ∀ x, ¬ A x) {x : Pt} : ¬ regP A x := fun r => h x r.2
theorem lin_bd {a A d r : Rat} (h1 : a ≤ A) (h2 : -a ≤ A) (d1 : -r ≤ d) (d2 : d ≤ r) : a * d ≤ A * r := by
  have r0 : 0 ≤ r := by grind
  rcases Rat.le_total (a := a) (b := 0) with q | q
  · have m1 := Rat.mul_le_mul_of_nonneg_left (c := -a) (show -d ≤ r by grind) (by grind)
    have m2 := Rat.mul_le_mul_of_nonneg_right h2 r0
    grind
  · have m1 := Rat.mul_le_mul_of_nonneg_left d2 q
    have m2 := Rat.mul_le_mul_of_nonneg_right h1 r0
    grind
theorem abs_both (a : Int) : ∃ A : Rat, (a : Rat) ≤ A ∧ -(a : Rat) ≤ A ∧ 0 ≤ A := by
  refine ⟨((max a (-a) : Int) : Rat), ?_, ?_, ?_⟩
  · exact_mod_cast (by omega : a ≤ max a (-a))
  · have : ((-a : Int) : Rat) ≤ ((max a (-a) : Int) : Rat) := by exact_mod_cast (by omega : -a ≤ max a (-a))
    push_cast at this ⊢
    exact this
  · exact_mod_cast (by omega : 0 ≤ max a (-a))
/-- Around a point strictly inside there is room. -/
theorem strict_nb {z : Pt} : ∀ L : List H3, (∀ h ∈ L, val h z < (h.c : Rat)) → ∃ r : Rat, 0 < r ∧ ∀ y, NbP z r y → Inside L y
  | [], _ => ⟨1, by decide, fun y _ h hh => by cases hh⟩
  | g :: L, hs => by
    obtain ⟨r, r0, hr⟩ := strict_nb L (fun h hh => hs h (List.mem_cons_of_mem _ hh))
    have hg := hs g List.mem_cons_self
    obtain ⟨A, a1, a2, a0⟩ := abs_both g.a
    obtain ⟨B, b1, b2, b0⟩ := abs_both g.b
    obtain ⟨t, ht⟩ : ∃ t : Rat, t * (A + B + 1) = (g.c : Rat) - val g z := ⟨((g.c : Rat) - val g z) / (A + B + 1), by grind⟩
    have t0 : 0 < t := by
      apply Classical.byContradiction; intro hn
      have := Rat.mul_le_mul_of_nonneg_right (show t ≤ 0 by grind) (show 0 ≤ A + B + 1 by grind)
      grind
    have one : ∀ y, NbP z t y → In g y := fun y hy => by
      obtain ⟨y1, y2, y3, y4⟩ := hy
      have m1 := lin_bd (d := y.x - z.x) (r := t) a1 a2 (by grind) (by grind)
      have m2 := lin_bd (d := y.y - z.y) (r := t) b1 b2 (by grind) (by grind)
      have e : val g y = val g z + ((g.a : Rat) * (y.x - z.x) + (g.b : Rat) * (y.y - z.y)) := by unfold val; grind
      unfold In
      rw [e]
      grind
    rcases Rat.le_total (a := t) (b := r) with q | q
    · refine ⟨t, t0, fun y hy h hh => ?_⟩
      rcases List.mem_cons.1 hh with rfl | hh
      · exact one y hy
      · exact hr y (by unfold NbP at hy ⊢; grind) h hh
    · refine ⟨r, r0, fun y hy h hh => ?_⟩
      rcases List.mem_cons.1 hh with rfl | hh
      · exact one y (by unfold NbP at hy ⊢; grind)
      · exact hr y hy h hh
theorem nb_strict {h : H3} (nz : NZ h) {x : Pt} {r : Rat} (r0 : 0 < r) (H : ∀ y, NbP x r y → In h y) : val h x < (h.c : Rat) := by
  have p1 := H ⟨x.x + r, x.y⟩ (by unfold NbP; grind)
  have p2 := H ⟨x.x - r, x.y⟩ (by unfold NbP; grind)
  have p3 := H ⟨x.x, x.y + r⟩ (by unfold NbP; grind)
  have p4 := H ⟨x.x, x.y - r⟩ (by unfold NbP; grind)
  unfold In val at p1 p2 p3 p4
  simp only at p1 p2 p3 p4
  unfold val
  rcases nz with n | n
  · rcases Int.lt_or_le h.a 0 with q | q
    · have q1 : (h.a : Rat) < 0 := by exact_mod_cast q
      have := Rat.mul_pos (show (0 : Rat) < -(h.a : Rat) by grind) r0
      grind
    · have q1 : (0 : Rat) < (h.a : Rat) := by exact_mod_cast (by omega : 0 < h.a)
      have := Rat.mul_pos q1 r0
      grind
  · rcases Int.lt_or_le h.b 0 with q | q
    · have q1 : (h.b : Rat) < 0 := by exact_mod_cast q
      have := Rat.mul_pos (show (0 : Rat) < -(h.b : Rat) by grind) r0
      grind
    · have q1 : (0 : Rat) < (h.b : Rat) := by exact_mod_cast (by omega : 0 < h.b)
      have := Rat.mul_pos q1 r0
      grind
theorem ok_framed {hs : List H3} (ok : ∀ g ∈ hs, HOk g) : ∀ g ∈ hs ++ frameH, HOk g := fun y hy => by
  rcases List.mem_append.1 hy with h | h
  · exact ok y h
  · exact frameH_ok y h
theorem fat_strict {L : List H3} (ok : ∀ g ∈ L, HOk g) (f : FatP (Inside L)) : ∃ x, ∀ h ∈ L, val h x < (h.c : Rat) := by
  obtain ⟨x, r, r0, hr⟩ := f
  exact ⟨x, fun h hh => nb_strict (ok h hh).nz r0 fun y hy => hr y hy h hh⟩
/-- A region made of half planes is not void exactly if they and the frame leave room. -/
theorem made_fat {hs : List H3} (ok : ∀ g ∈ hs, HOk g) : makeR hs ≠ [] ↔ FatP (Inside (hs ++ frameH)) := by
  constructor
  · intro h
    obtain ⟨x, hx⟩ := inner_all ok h
    obtain ⟨r, r0, hr⟩ := strict_nb _ hx
    exact ⟨x, r, r0, hr⟩
  · intro f
    obtain ⟨x, hx⟩ := fat_strict (ok_framed ok) f
    exact made_inner ok hx
theorem set_made {hs : List H3} (ok : ∀ g ∈ hs, HOk g) {x : Pt} : setR (makeR hs) x ↔ regP (Inside (hs ++ frameH)) x := by
  constructor
  · rintro ⟨hne, hi⟩
    exact ⟨(made_fat ok).1 hne, (made_inside ok hne).1 hi⟩
  · rintro ⟨f, hi⟩
    have hne := (made_fat ok).2 f
    exact ⟨hne, (made_inside ok hne).2 hi⟩
theorem set_reg {p : List H3} (k : regionOk p = true) (hne : p ≠ []) {x : Pt} : setR p x ↔ Inside (p ++ frameH) x := by
  obtain ⟨ok, hm, _⟩ := regionOk_parts k hne
  have hne' : makeR p ≠ [] := by rw [hm]; exact hne
  have := made_inside ok hne' (x := x)
  rw [hm] at this
  unfold setR
  exact ⟨fun h => this.1 h.2, fun h => ⟨hne, this.2 h⟩⟩
theorem set_fat {p : List H3} (k : regionOk p = true) (hne : p ≠ []) : FatP (setR p) := by
  obtain ⟨ok, hm, _⟩ := regionOk_parts k hne
  exact ((made_fat ok).1 (by rw [hm]; exact hne)).mono fun x h => (set_reg k hne).2 h
theorem set_void {x : Pt} : ¬ setR [] x := fun h => h.1 rfl
theorem set_ne {p : List H3} {x : Pt} (h : setR p x) : p ≠ [] := h.1
theorem set_frame {p : List H3} (k : regionOk p = true) {x : Pt} (h : setR p x) : Inside frameH x := fun g hg => (set_reg k h.1).1 h g (List.mem_append_right _ hg)
theorem set_regP {p : List H3} (k : regionOk p = true) {x : Pt} : regP (setR p) x ↔ setR p x := ⟨fun h => h.2, fun h => ⟨set_fat k h.1, h⟩⟩
theorem set_sorted {p : List H3} (k : regionOk p = true) (hne : p ≠ []) {x : Pt} : Inside (sorted4 p) x ↔ setR p x := by
  obtain ⟨ok, _, _⟩ := regionOk_parts k hne
  rw [inside_sorted ok, set_reg k hne]
theorem set_void_iff {p : List H3} (k : regionOk p = true) : p = [] ↔ ∀ x, ¬ setR p x := by
  constructor
  · rintro rfl x h
    exact set_void h
  · intro h
    apply Classical.byContradiction; intro hne
    obtain ⟨x, hx⟩ := (set_fat k hne).some
    exact h x hx
theorem in_spot {h s : H3} (hd : 0 < s.c) : In h (ptOf (s.a, s.b, s.c)) ↔ sideI h s ≤ 0 := in_side hd
theorem has_set {p : List H3} {s : H3} (hd : 0 < s.c) : hasL p s = true ↔ setR p (ptOf (s.a, s.b, s.c)) := by
  rw [hasL_iff]
  unfold setR
  constructor
  · rintro ⟨h1, h2⟩
    exact ⟨h1, fun h hh => (in_side hd).2 (h2 h hh)⟩
  · rintro ⟨h1, h2⟩
    exact ⟨h1, fun h hh => (in_side hd).1 (h2 h hh)⟩
theorem scale_pt {a b c : Int} {g : Nat} (g0 : 0 < g) (c0 : 0 < c) : ptOf (a * g, b * g, c * g) = ptOf (a, b, c) := by
  have wq : (0 : Rat) < (g : Rat) := by exact_mod_cast g0
  have cq : (0 : Rat) < (c : Rat) := by exact_mod_cast c0
  unfold ptOf
  push_cast
  congr 1 <;> grind
/-- The corners of a region lie in it. -/
theorem corner_set {p : List H3} (k : regionOk p = true) {s : H3} (hs : s ∈ cornersL p) : okS s = true ∧ 0 < s.c ∧ setR p (ptOf (s.a, s.b, s.c)) := by
  have ks := corners_spots k s hs
  refine ⟨ks, by have := okS_bd ks; omega, ?_⟩
  unfold cornersL at hs
  obtain ⟨i, hi, rfl⟩ := List.mem_map.1 hs
  have hi := List.mem_range.1 hi
  have hne : p ≠ [] := by rintro rfl; simp at hi
  obtain ⟨G, hm, _⟩ := regionOk_parts k hne
  have R := reg_of G hm hne
  obtain ⟨hj, g, a, b, c, g0, e, eh, c0, ok⟩ := R.corner_ok G hi
  rw [eh]
  rw [← set_sorted k hne]
  obtain ⟨hc, hins⟩ := R.crossing hi hj
  have := ((insideI_cross R.good.framed).1 hins).2
  rw [e, scale_pt g0 c0] at this
  exact this
theorem corner_max {p : List H3} (k : regionOk p = true) (hne : p ≠ []) {h : H3} (nh : NZ h) : ∃ s ∈ cornersL p, 0 < s.c ∧ ∀ x, setR p x → val h x ≤ val h (ptOf (s.a, s.b, s.c)) := by
  obtain ⟨G, hm, _⟩ := regionOk_parts k hne
  obtain ⟨s, hs, c0, hmax⟩ := (reg_of G hm hne).value_max G hne nh
  exact ⟨s, hs, c0, fun x hx => hmax x ((set_sorted k hne).2 hx)⟩
/-- A region lies in another one exactly if its set does. -/
theorem within_iff {p q : List H3} : isWithinR p q = true ↔ regionOk p = true ∧ regionOk q = true ∧ ∀ x, setR p x → setR q x := by
  unfold isWithinR withinL
  simp only [Bool.and_eq_true, List.all_eq_true]
  constructor
  · rintro ⟨⟨kp, kq⟩, h⟩
    refine ⟨kp, kq, fun x hx => ?_⟩
    have hne := hx.1
    have kc : ∀ s ∈ cornersL p, setR q (ptOf (s.a, s.b, s.c)) := fun s hs => (has_set (corner_set kp hs).2.1).1 (h s hs)
    have hq : q ≠ [] := by
      obtain ⟨s, hs, _⟩ := corner_max kp hne (h := ⟨1, 0, 0⟩) (Or.inl (by decide))
      exact (kc s hs).1
    refine ⟨hq, fun g hg => ?_⟩
    obtain ⟨s, hs, _, hmax⟩ := corner_max kp hne ((region_good kq).1 g hg).nz
    have h1 := hmax x hx
    have h2 := (kc s hs).2 g hg
    unfold In at h2 ⊢
    grind
  · rintro ⟨kp, kq, h⟩
    refine ⟨⟨kp, kq⟩, fun s hs => ?_⟩
    obtain ⟨_, c0, i⟩ := corner_set kp hs
    exact (has_set c0).2 (h _ i)
def midP (a b : Pt) : Pt := ⟨(a.x + b.x) / 2, (a.y + b.y) / 2⟩
theorem val_midP (h : H3) (a b : Pt) : val h (midP a b) * 2 = val h a + val h b := by unfold val midP; grind
/-- A border that bears a stretch of a region with room, on whose side the region lies, is the border of one of its half planes. -/
theorem edge_in {L : List H3} (G : Good L) (f : FatP (Inside L)) {x : H3} (kx : HOk x) (hx : ∀ z, Inside L z → In x z) {a b : Pt} (oa : On x a) (ob : On x b) (hab : prm x a < prm x b) (ia : Inside L a) (ib : Inside L b) : x ∈ L := by
  have hy : ∃ y ∈ L, On y (midP a b) := by
    apply Classical.byContradiction; intro hn
    have hs : ∀ y ∈ L, val y (midP a b) < (y.c : Rat) := fun y hy => by
      have h1 := ia y hy
      have h2 := ib y hy
      have h3 := val_midP y a b
      have h4 : ¬ On y (midP a b) := fun o => hn ⟨y, hy, o⟩
      unfold In at h1 h2; unfold On at h4
      grind
    obtain ⟨r, r0, hr⟩ := strict_nb L hs
    have := nb_strict kx.nz r0 fun y hy => hx y (hr y hy)
    have h3 := val_midP x a b
    unfold On at oa ob
    grind
  obtain ⟨y, hy, oy⟩ := hy
  have ky := G.ok y hy
  have h1 := ia y hy
  have h2 := ib y hy
  have h3 := val_midP y a b
  have ya : On y a := by unfold In at h1 h2; unfold On at oy ⊢; grind
  have yb : On y b := by unfold In at h1 h2; unfold On at oy ⊢; grind
  have hc := two_on_par (e := x) (h := y) ky.nz oa ob ya yb (by grind)
  have sx : (0 : Rat) < (sizeH x : Rat) := by exact_mod_cast size_pos kx.nz
  have sy : (0 : Rat) < (sizeH y : Rat) := by exact_mod_cast size_pos ky.nz
  cases hd : sameDir y x with
  | true =>
    obtain ⟨e1, e2⟩ := prop_of_sameDir ky.nz kx.nz hd
    have q1 : (y.a : Rat) * (sizeH x : Rat) = (x.a : Rat) * (sizeH y : Rat) := by exact_mod_cast e1
    have q2 : (y.b : Rat) * (sizeH x : Rat) = (x.b : Rat) * (sizeH y : Rat) := by exact_mod_cast e2
    have q3 : (y.c : Rat) * (sizeH x : Rat) = (x.c : Rat) * (sizeH y : Rat) := by
      unfold On val at oa ya
      grind
    have t : Tle y x := ⟨hd, by
      have : y.c * sizeH x = x.c * sizeH y := by exact_mod_cast q3
      omega⟩
    have := edge_tight hy ky kx t ia oa
    exact this ▸ hy
  | false =>
    exfalso
    obtain ⟨z, hz⟩ := fat_strict G.ok f
    have hz1 := hz y hy
    have hz2 := hx z (fun g hg => by have := hz g hg; unfold In; grind)
    obtain ⟨e1, e2⟩ := opp_prop ky.nz kx.nz hc hd
    have q1 : (x.a : Rat) * (sizeH y : Rat) = -(y.a : Rat) * (sizeH x : Rat) := by exact_mod_cast e1
    have q2 : (x.b : Rat) * (sizeH y : Rat) = -(y.b : Rat) * (sizeH x : Rat) := by exact_mod_cast e2
    have q3 : (x.c : Rat) * (sizeH y : Rat) = -(y.c : Rat) * (sizeH x : Rat) := by
      unfold On val at oa ya
      grind
    have e : (val x z - (x.c : Rat)) * (sizeH y : Rat) = ((y.c : Rat) - val y z) * (sizeH x : Rat) := by unfold val; grind
    have m1 := Rat.mul_pos (show (0 : Rat) < (y.c : Rat) - val y z by grind) sx
    unfold In at hz2
    have m2 := Rat.mul_le_mul_of_nonneg_right (show val x z - (x.c : Rat) ≤ 0 by grind) (show (0 : Rat) ≤ (sizeH y : Rat) by grind)
    grind
theorem edge_sub {p q : List H3} (kp : regionOk p = true) (kq : regionOk q = true) (hp : p ≠ []) (hq : q ≠ []) (e : ∀ x, setR p x ↔ setR q x) : ∀ h ∈ p, h ∈ q := by
  intro h hh
  obtain ⟨okp, mp, _⟩ := regionOk_parts kp hp
  obtain ⟨okq, mq, _⟩ := regionOk_parts kq hq
  have Rp := reg_of okp mp hp
  have Rq := reg_of okq mq hq
  have hpm : h ∈ pickE (sorted4 p) (sorted4 p).length := by rw [Rp.edges]; exact hh
  obtain ⟨hL, a, b, oa, ob, hab, ia, ib⟩ := (pick_mem Rp.good h).1 hpm
  have eI : ∀ x, Inside (sorted4 p) x ↔ Inside (sorted4 q) x := fun x => by rw [set_sorted kp hp, set_sorted kq hq, e x]
  have f : FatP (Inside (sorted4 q)) := (set_fat kq hq).mono fun x hx => (set_sorted kq hq).2 hx
  have hm := edge_in Rq.good f (okp h hh) (fun z hz => (eI z).2 hz h hL) oa ob hab ((eI a).1 ia) ((eI b).1 ib)
  rw [← Rq.edges]
  exact (pick_mem Rq.good h).2 ⟨hm, a, b, oa, ob, hab, (eI a).1 ia, (eI b).1 ib⟩
/-- Two regions with the same points are the same list. -/
theorem set_eq {p q : List H3} (kp : regionOk p = true) (kq : regionOk q = true) (e : ∀ x, setR p x ↔ setR q x) : p = q := by
  by_cases hp : p = []
  · have := (set_void_iff kq).2 fun x hx => (set_void_iff kp).1 hp x ((e x).2 hx)
    rw [hp, this]
  · have hq : q ≠ [] := fun h => by
      obtain ⟨x, hx⟩ := (set_fat kp hp).some
      exact ((e x).1 hx).1 h
    obtain ⟨okp, mp, _⟩ := regionOk_parts kp hp
    obtain ⟨okq, mq, _⟩ := regionOk_parts kq hq
    have Rp := reg_of okp mp hp
    have Rq := reg_of okq mq hq
    refine sorted_unique (by rw [← Rp.edges]; exact pick_sorted Rp.good) (by rw [← Rq.edges]; exact pick_sorted Rq.good) fun x => ⟨edge_sub kp kq hp hq e x, edge_sub kq kp hq hp (fun x => (e x).symm) x⟩
theorem within_antisymm {p q : List H3} (h1 : isWithinR p q = true) (h2 : isWithinR q p = true) : p = q := by
  obtain ⟨kp, kq, a⟩ := within_iff.1 h1
  obtain ⟨_, _, b⟩ := within_iff.1 h2
  exact set_eq kp kq fun x => ⟨a x, b x⟩
end Go.Proofs.YtabmfaamadbefaaGreat