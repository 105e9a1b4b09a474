/- Several texts in one: Su, Gk, Ep. Each says its own conditions. -/
import Derived.Test.YtabmfaamadbefaaHs
import Derived.Test.YtabmfaamadbefaaRt
import Derived.Test.YtabmfaamadbefaaGeo
import Derived.Test.YtabmfaamadbefaaMj
/- Plain: the farthest of some fractions, compared as such and in lowest terms; support and farthest corner of a region. No program. -/
set_option linter.unusedSimpArgs false
set_option linter.unusedVariables false
namespace Go.Proofs.Ytabmfaamadbefaa

/-- One fraction more: its number, if it is greater than all before. -/
def farStep (st : Nat × Option (Nat × Int × Int)) (x : Int × Int) : Nat × Option (Nat × Int × Int) :=
  (st.1 + 1, match st.2 with
    | none => some (st.1, x.1, x.2)
    | some (j, m, d) => if 0 < cmpF x.1 x.2 m d then some (st.1, x.1, x.2) else some (j, m, d))
def farV (l : List (Int × Int)) : Nat × Option (Nat × Int × Int) := l.foldl farStep (0, none)
theorem farV_snoc (l : List (Int × Int)) (x : Int × Int) : farV (l ++ [x]) = farStep (farV l) x := by unfold farV; rw [List.foldl_append]; rfl
theorem farV_nil : farV [] = (0, none) := rfl
theorem farV_count (l : List (Int × Int)) : (farV l).1 = l.length := by
  suffices h : ∀ (l : List (Int × Int)) st, (l.foldl farStep st).1 = st.1 + l.length by
    have := h l (0, none); unfold farV; rw [this]; simp
  intro l
  induction l with
  | nil => intro st; rfl
  | cons x r ih => intro st; rw [List.foldl_cons, ih]; simp [farStep]; omega
/-- The numbers that the program keeps. -/
def farN (l : List (Int × Int)) : Int × Int := match (farV l).2 with | none => (0, 0) | some (_, m, d) => (m, d)
def farB (l : List (Int × Int)) : Int := match (farV l).2 with | none => -1 | some (j, _, _) => (j : Int)
def FrOk (x : Int × Int) : Prop := (-500000000000000000 ≤ x.1 ∧ x.1 ≤ 500000000000000000) ∧ 1 ≤ x.2 ∧ x.2 ≤ 5000000000
theorem far_inv {l : List (Int × Int)} (h : ∀ x ∈ l, FrOk x) : (l = [] ∧ (farV l).2 = none) ∨ ∃ j m d, (farV l).2 = some (j, m, d) ∧ FrOk (m, d) ∧ j < l.length ∧ (m, d) ∈ l := by
  suffices key : ∀ k, k ≤ l.length → (k = 0 ∧ (farV (l.take k)).2 = none) ∨ ∃ j m d, (farV (l.take k)).2 = some (j, m, d) ∧ FrOk (m, d) ∧ j < k ∧ (m, d) ∈ l by
    rcases key l.length (Nat.le_refl _) with ⟨h0, h1⟩ | h1
    · rw [List.take_length] at h1; exact .inl ⟨List.length_eq_zero_iff.1 h0, h1⟩
    · rw [List.take_length] at h1; exact .inr h1
  intro k
  induction k with
  | zero => intro _; exact .inl ⟨rfl, by simp [farV]⟩
  | succ k ih =>
    intro hk
    right
    have hlt : k < l.length := by omega
    have hx := h _ (List.getElem_mem hlt)
    have hc : (farV (l.take k)).1 = k := by rw [farV_count]; simp; omega
    rw [List.take_succ_eq_append_getElem hlt, farV_snoc]
    unfold farStep
    rcases ih (by omega) with ⟨_, e⟩ | ⟨j, m, d, e, f, hj, hm⟩
    · rw [e, hc]; exact ⟨k, _, _, rfl, hx, by omega, List.getElem_mem hlt⟩
    · rw [e, hc]
      simp only
      split
      · exact ⟨k, _, _, rfl, hx, by omega, List.getElem_mem hlt⟩
      · exact ⟨j, m, d, rfl, f, by omega, hm⟩
theorem farN_ok {l : List (Int × Int)} (h : ∀ x ∈ l, FrOk x) : (l = [] ∧ farN l = (0, 0) ∧ farB l = -1) ∨ (FrOk (farN l) ∧ 0 ≤ farB l ∧ farB l < l.length ∧ farN l ∈ l) := by
  unfold farN farB
  rcases far_inv h with ⟨h0, e⟩ | ⟨j, m, d, e, f, hj, hm⟩
  · rw [e]; exact .inl ⟨h0, rfl, rfl⟩
  · rw [e]; exact .inr ⟨f, by simp, by simp; omega, hm⟩
/-- Is x the farthest so far? As the program asks. -/
def farGo (l : List (Int × Int)) (x : Int × Int) : Bool := decide ((farN l).2 = 0) || decide (0 < cmpF x.1 x.2 (farN l).1 (farN l).2)
theorem farN_snoc {l : List (Int × Int)} {x : Int × Int} (h : ∀ x ∈ l, FrOk x) : farN (l ++ [x]) = (if farGo l x = true then x else farN l) ∧ farB (l ++ [x]) = (if farGo l x = true then (l.length : Int) else farB l) := by
  unfold farGo farN farB
  rw [farV_snoc]
  have hc := farV_count l
  rcases far_inv h with ⟨h0, e⟩ | ⟨j, m, d, e, f, hj, _⟩
  · unfold farStep; rw [e, hc]; exact ⟨rfl, rfl⟩
  · have hd : decide (d = 0) = false := decide_eq_false (by have := f.2; simp only at this; omega)
    unfold farStep
    rw [e, hc]
    simp only [hd, Bool.false_or]
    by_cases p : 0 < cmpF x.1 x.2 m d
    · rw [if_pos p, decide_eq_true p, if_pos rfl, if_pos rfl]; exact ⟨rfl, rfl⟩
    · rw [if_neg p, decide_eq_false p, if_neg (by simp), if_neg (by simp)]; exact ⟨rfl, rfl⟩
theorem cmpF_scale {a b c d : Int} {g h : Nat} (hg : 0 < g) (hh : 0 < h) (hb : 0 < b) (hd : 0 < d) : cmpF (a * g) (b * g) (c * h) (d * h) = cmpF a b c d := by
  have gh : (0 : Int) < (g : Int) * h := Int.mul_pos (by omega) (by omega)
  have e1 : a * g * (d * h) = a * d * ((g : Int) * h) := by grind
  have e2 : c * h * (b * g) = c * b * ((g : Int) * h) := by grind
  unfold cmpF
  rw [e1, e2]
  have l1 : a * d * ((g : Int) * h) < c * b * ((g : Int) * h) ↔ a * d < c * b := Int.mul_lt_mul_right gh
  have l2 : c * b * ((g : Int) * h) < a * d * ((g : Int) * h) ↔ c * b < a * d := Int.mul_lt_mul_right gh
  simp only [l1, l2]
theorem ratOf_fr {x : Int × Int} (h : FrOk x) : ∃ (g : Nat), 0 < g ∧ x.1 = (ratOf x.1 x.2).1 * g ∧ x.2 = (ratOf x.1 x.2).2 * g ∧ 0 < (ratOf x.1 x.2).2 ∧ ratioOk (ratOf x.1 x.2).1 (ratOf x.1 x.2).2 = true := by
  obtain ⟨h1, h2, h3⟩ := h
  obtain ⟨g, a, b, eg, g0, ea, eb, qa, qb, b0, hg⟩ := gcd2_parts (n := x.1) (d := x.2) (by omega)
  have ba := mul_le_bd (a := a) (M := 500000000000000000) g0 (by omega) (by rw [← ea]; exact h1)
  have bb := mul_le_bd (a := b) (M := 5000000000) g0 (by omega) (by rw [← eb]; omega)
  have ok : ratioOk a b = true := (ratioOk_parts b0 hg (by omega)).2 ⟨by omega, by omega, by omega⟩
  rw [ratOf_red eg qa qb, if_pos ok]
  exact ⟨g, g0, ea, eb, b0, ok⟩
theorem ratCmp_fr {x y : Int × Int} (hx : FrOk x) (hy : FrOk y) : ratioCmp (ratOf x.1 x.2).1 (ratOf x.1 x.2).2 (ratOf y.1 y.2).1 (ratOf y.1 y.2).2 = cmpF x.1 x.2 y.1 y.2 := by
  obtain ⟨g, g0, a1, a2, a3, a4⟩ := ratOf_fr hx
  obtain ⟨h, h0, b1, b2, b3, b4⟩ := ratOf_fr hy
  unfold ratioCmp
  rw [if_pos ⟨a4, b4⟩]
  generalize ratOf x.1 x.2 = p at *
  generalize ratOf y.1 y.2 = q at *
  rw [a1, a2, b1, b2, cmpF_scale g0 h0 a3 b3]

/-- The values of a*x + b*y at the corners, as fractions. -/
def valS (a b : Int) (s : H3) : Int × Int := (a * s.a + b * s.b, s.c)
def valsL (a b : Int) (hs : List H3) : List (Int × Int) := (cornersL hs).map (valS a b)
theorem valsL_length (a b : Int) (hs : List H3) : (valsL a b hs).length = hs.length := by unfold valsL; rw [List.length_map, cornersL_length]
theorem valS_bd {a b : Int} {s : H3} (ha : -50000 ≤ a ∧ a ≤ 50000) (hb : -50000 ≤ b ∧ b ≤ 50000) (ks : okS s = true) : (-250000000000000000 ≤ a * s.a ∧ a * s.a ≤ 250000000000000000) ∧ (-250000000000000000 ≤ b * s.b ∧ b * s.b ≤ 250000000000000000) := by
  obtain ⟨b1, b2, b3⟩ := okS_bd ks
  have m1 := mul_bd (A := 50000) (B := 5000000000000) ha (y := s.a) (by omega)
  have m2 := mul_bd (A := 50000) (B := 5000000000000) hb (y := s.b) (by omega)
  omega
theorem valS_ok {a b : Int} {s : H3} (ha : -50000 ≤ a ∧ a ≤ 50000) (hb : -50000 ≤ b ∧ b ≤ 50000) (ks : okS s = true) : FrOk (valS a b s) := by
  obtain ⟨b1, _⟩ := okS_bd ks
  obtain ⟨m1, m2⟩ := valS_bd ha hb ks
  unfold FrOk valS
  simp only
  omega
theorem valsL_ok {a b : Int} {hs : List H3} (ha : -50000 ≤ a ∧ a ≤ 50000) (hb : -50000 ≤ b ∧ b ≤ 50000) (h : regionOk hs = true) : ∀ x ∈ valsL a b hs, FrOk x := by
  intro x hx
  obtain ⟨s, hs', rfl⟩ := List.mem_map.1 hx
  exact valS_ok ha hb (corners_spots h s hs')
/-- The support of a region: the greatest value, in lowest terms; and the farthest corner's number. -/
def supN (a b : Int) (hs : List H3) : Int × Int := ratOf (farN (valsL a b hs)).1 (farN (valsL a b hs)).2
def supOk (hs : List H3) (a b : Int) : Bool := decide (hs ≠ []) && inR a (-50000) 50000 && inR b (-50000) 50000 && regionOk hs
def supR (hs : List H3) (a b : Int) : (Int × Int) × Bool := if supOk hs a b = true then (supN a b hs, true) else ((0, 0), false)
def farR (hs : List H3) (a b : Int) : Int := if supOk hs a b = true then farB (valsL a b hs) else -1
theorem sup_parts {hs : List H3} {a b : Int} (ha : -50000 ≤ a ∧ a ≤ 50000) (hb : -50000 ≤ b ∧ b ≤ 50000) (h : regionOk hs = true) (hne : hs ≠ []) : FrOk (farN (valsL a b hs)) ∧ 0 ≤ farB (valsL a b hs) ∧ farB (valsL a b hs) < hs.length := by
  rcases farN_ok (valsL_ok ha hb h) with ⟨h0, _⟩ | ⟨f, h1, h2, _⟩
  · exfalso
    have := valsL_length a b hs
    rw [h0] at this
    exact hne (List.length_eq_zero_iff.1 this.symm)
  · rw [valsL_length] at h2
    exact ⟨f, h1, h2⟩
end Go.Proofs.Ytabmfaamadbefaa

/- Plain: a region is the meet of the half planes of its edges; a meet met again is itself; the order of half planes does not matter. No program. -/
set_option linter.unusedSimpArgs false
set_option linter.unusedVariables false
set_option linter.unusedSectionVars false
namespace Go.Proofs.Ytabmfaamadbefaa

theorem cross_id4 (h g x y : H3) : cross h x * cross g y - cross h y * cross g x = cross h g * cross x y := by unfold cross; grind
theorem cross_nrm (h e g : H3) : nrm h * cross e g = dotH h e * cross h g - dotH h g * cross h e := by unfold nrm dotH cross; grind
theorem edges_cone {L : List H3} (G : Good L) (nv : ¬ Void L) (ne : ∃ e ∈ L, Edge L e) {h : H3} (hh : h ∈ L) : ∃ e g v, e ∈ L ∧ Edge L e ∧ Next L e g v ∧ 0 < cross e h ∧ 0 ≤ cross h g := by
  classical
  have nh := G.nz h hh
  have mA : ∀ f, f ∈ L.filter (fun f => decide (Edge L f ∧ 0 < cross f h)) ↔ f ∈ L ∧ Edge L f ∧ 0 < cross f h := fun f => by simp
  have neA : L.filter (fun f => decide (Edge L f ∧ 0 < cross f h)) ≠ [] := by
    intro h0
    have all : ∀ f ∈ L, Edge L f → 0 ≤ cross h f := fun f hf ef => by
      apply Classical.byContradiction; intro hn
      have : f ∈ L.filter (fun f => decide (Edge L f ∧ 0 < cross f h)) := (mA f).2 ⟨hf, ef, by rw [cross_anti]; omega⟩
      rw [h0] at this; cases this
    have mB : ∀ f, f ∈ L.filter (fun f => decide (Edge L f ∧ 0 < cross h f)) ↔ f ∈ L ∧ Edge L f ∧ 0 < cross h f := fun f => by simp
    by_cases hB : L.filter (fun f => decide (Edge L f ∧ 0 < cross h f)) = []
    · have zero : ∀ f ∈ L, Edge L f → cross h f = 0 := fun f hf ef => by
        have := all f hf ef
        apply Classical.byContradiction; intro hn
        have : f ∈ L.filter (fun f => decide (Edge L f ∧ 0 < cross h f)) := (mB f).2 ⟨hf, ef, by omega⟩
        rw [hB] at this; cases this
      obtain ⟨e, he, ee⟩ := ne
      obtain ⟨g, v, N⟩ := next_exists G nv he ee
      have z1 := zero e he ee
      have z2 := zero g N.mg N.eg
      have id := cross_nrm h e g
      rw [z1, z2, Int.mul_zero, Int.mul_zero] at id
      have := Int.mul_pos (nrm_pos nh) N.turn
      omega
    · obtain ⟨g0, hg0, gm⟩ := last_angle (e := h) _ hB (fun f hf => ((mB f).1 hf).2.2)
      obtain ⟨m0, e0, p0⟩ := (mB g0).1 hg0
      obtain ⟨g1, v1, N1⟩ := next_exists G nv m0 e0
      have z1 : cross h g1 = 0 := by
        have a1 := all g1 N1.mg N1.eg
        apply Classical.byContradiction; intro hn
        have := gm g1 ((mB g1).2 ⟨N1.mg, N1.eg, by omega⟩)
        have := N1.turn
        omega
      obtain ⟨g2, v2, N2⟩ := next_exists G nv N1.mg N1.eg
      have a2 := all g2 N2.mg N2.eg
      have id := cross_id4 h g1 g2 g0
      rw [z1, Int.zero_mul] at id
      have q1 := Int.mul_pos p0 N2.turn
      have q2 : cross h g2 * cross g1 g0 ≤ 0 := Int.mul_nonpos_of_nonneg_of_nonpos a2 (by rw [cross_anti]; have := N1.turn; omega)
      omega
  obtain ⟨e, he, em⟩ := last_angle (e := negH h) _ neA (fun f hf => by
    have := ((mA f).1 hf).2.2
    have id : cross (negH h) f = cross f h := by unfold cross negH; grind
    rw [id]; exact this)
  obtain ⟨m0, e0, p0⟩ := (mA e).1 he
  obtain ⟨g, v, N⟩ := next_exists G nv m0 e0
  refine ⟨e, g, v, m0, e0, N, p0, ?_⟩
  apply Classical.byContradiction; intro hn
  have := em g ((mA g).2 ⟨N.mg, N.eg, by rw [cross_anti]; omega⟩)
  have := N.turn
  omega
theorem edges_inside {L : List H3} (G : Good L) (nv : ¬ Void L) (ne : ∃ e ∈ L, Edge L e) {x : Pt} (hx : ∀ e ∈ L, Edge L e → In e x) : Inside L x := by
  intro h hh
  obtain ⟨e, g, v, he, ee, N, p, q⟩ := edges_cone G nv ne hh
  have i1 := hx e he ee
  have i2 := hx g N.mg N.eg
  have iv := N.iv h hh
  have o1 := N.oe
  have o2 := N.og
  have cq : (0 : Rat) < (cross e g : Rat) := by exact_mod_cast N.turn
  have pq : (0 : Rat) ≤ (cross e h : Rat) := by exact_mod_cast Int.le_of_lt p
  have qq : (0 : Rat) ≤ (cross h g : Rat) := by exact_mod_cast q
  have id : ∀ y : Pt, (cross e g : Rat) * val h y = (cross h g : Rat) * val e y + (cross e h : Rat) * val g y := fun y => by
    rw [crossQ, crossQ, crossQ]; unfold val; grind
  have d1 := id x
  have d2 := id v
  unfold In On at *
  have m1 := Rat.mul_le_mul_of_nonneg_left i1 qq
  have m2 := Rat.mul_le_mul_of_nonneg_left i2 pq
  have m3 := Rat.mul_le_mul_of_nonneg_left iv (show (0 : Rat) ≤ (cross e g : Rat) by grind)
  rw [o1, o2] at d2
  apply Classical.byContradiction; intro hn
  have m4 := Rat.mul_pos cq (show (0 : Rat) < val h x - h.c by grind)
  grind
theorem edge_congr {L M : List H3} (e : ∀ x, Inside L x ↔ Inside M x) (h : H3) : Edge L h ↔ Edge M h := by
  unfold Edge
  constructor
  · rintro ⟨p, q, a, b, c, d, f⟩; exact ⟨p, q, a, b, c, (e p).1 d, (e q).1 f⟩
  · rintro ⟨p, q, a, b, c, d, f⟩; exact ⟨p, q, a, b, c, (e p).2 d, (e q).2 f⟩
theorem Good.in_frame {L : List H3} (G : Good L) {x : Pt} (h : Inside L x) : ∀ k ∈ frameH, In k x := fun k hk => by
  obtain ⟨y, hy, t⟩ := G.frame k hk
  exact Tle.in (G.ok y hy).nz (frameH_ok k hk).nz t (h y hy)
theorem makeR_idem {hs : List H3} (ok : ∀ g ∈ hs, HOk g) (hne : makeR hs ≠ []) : makeR (makeR hs) = makeR hs := by
  have G := good_sorted ok
  have eP := makeE_some (L := sorted4 hs) hne
  have eP' : makeR hs = pickE (sorted4 hs) (sorted4 hs).length := eP
  have mP : ∀ x, x ∈ makeR hs ↔ x ∈ sorted4 hs ∧ Edge (sorted4 hs) x := fun x => by rw [eP']; exact pick_mem G x
  have l3 : ¬ (makeR hs).length < 3 := fun h => by
    rw [eP'] at h
    exact hne (if_pos h)
  have nv : ¬ Void (sorted4 hs) := fun v => by
    have := void_few G v
    rw [← eP'] at this; exact l3 this
  have ne : ∃ e ∈ sorted4 hs, Edge (sorted4 hs) e := by
    obtain ⟨x, hx⟩ := List.exists_mem_of_ne_nil _ hne
    exact ⟨x, (mP x).1 hx⟩
  have okP : ∀ g ∈ makeR hs, HOk g := fun g hg => G.ok g ((mP g).1 hg).1
  have G' := good_sorted okP
  have eI : ∀ x, Inside (sorted4 (makeR hs)) x ↔ Inside (sorted4 hs) x := fun x => by
    rw [inside_sorted okP]
    constructor
    · intro h
      exact edges_inside G nv ne (fun e he ee => h e (List.mem_append_left _ ((mP e).2 ⟨he, ee⟩)))
    · intro h g hg
      rcases List.mem_append.1 hg with h1 | h1
      · exact h g ((mP g).1 h1).1
      · exact G.in_frame h g h1
  have mem : ∀ x, x ∈ pickE (sorted4 (makeR hs)) (sorted4 (makeR hs)).length ↔ x ∈ makeR hs := fun x => by
    rw [pick_mem G' x, edge_congr eI x]
    constructor
    · rintro ⟨h1, h2⟩
      rcases List.mem_append.1 (sortH_mem (fun y hy => by
        rcases List.mem_append.1 hy with h | h
        · exact (okP y h).nz
        · exact (frameH_ok y h).nz) h1) with h3 | h3
      · exact h3
      · obtain ⟨y, hy, t⟩ := G.frame x h3
        obtain ⟨p, q, op, oq, hlt, ip, iq⟩ := h2
        have := edge_tight hy (G.ok y hy) (frameH_ok x h3) t ip op
        exact (mP x).2 ⟨this ▸ hy, p, q, op, oq, hlt, ip, iq⟩
    · intro hx
      have h2 := ((mP x).1 hx).2
      refine ⟨?_, h2⟩
      obtain ⟨y, hy, t⟩ := sortH_cover (l := makeR hs ++ frameH) (fun y hy => by
        rcases List.mem_append.1 hy with h | h
        · exact (okP y h).nz
        · exact (frameH_ok y h).nz) (List.mem_append_left _ hx)
      obtain ⟨p, q, op, oq, hlt, ip, iq⟩ := h2
      have := edge_tight (L := sorted4 (makeR hs)) hy (G'.ok y hy) (okP x hx) t ((eI p).2 ip) op
      exact this ▸ hy
  have e2 : pickE (sorted4 (makeR hs)) (sorted4 (makeR hs)).length = makeR hs := by
    refine sorted_unique (pick_sorted G') ?_ mem
    rw [eP']; exact pick_sorted G
  show makeE (sorted4 (makeR hs)) = makeR hs
  unfold makeE
  rw [e2, if_neg l3]
theorem makeR_mem_ext {l m : List H3} (ok : ∀ g ∈ l, HOk g) (h : ∀ x, x ∈ l ↔ x ∈ m) : makeR l = makeR m := by
  have e : sorted4 l = sorted4 m := sortH_ext (fun y hy => by
      rcases List.mem_append.1 hy with h | h
      · exact (ok y h).nz
      · exact (frameH_ok y h).nz) (fun y hy => by
      rcases List.mem_append.1 hy with h | h
      · exact (ok y h).prim
      · exact (frameH_ok y h).prim) (fun x => by rw [List.mem_append, List.mem_append, h x])
  unfold makeR
  rw [e]
end Go.Proofs.Ytabmfaamadbefaa

/- Plain: the half plane of a direction with a fraction as its C; erosion, half plane by half plane. No program. -/
set_option linter.unusedSimpArgs false
set_option linter.unusedVariables false
set_option linter.unusedSectionVars false
namespace Go.Proofs.Ytabmfaamadbefaa
open Go.RowKit

def topF (a b n d : Int) : H3 × Bool := if ratioOk n d = true ∧ d ≤ 50000 then halfOf (a * d) (b * d) n else (⟨0, 0, 0⟩, false)
theorem ratioOk_cop {n d : Int} (h : ratioOk n d = true) : Nat.gcd n.natAbs d.natAbs = 1 := by
  obtain ⟨hd, hn⟩ := ratioOk_bd h
  simp only [ratioOk, Bool.and_eq_true, decide_eq_true_eq] at h
  have h2 := h.2
  rw [gcdS_eq _ _ (by omega) (by omega)] at h2
  omega
theorem ratOf_same {n d : Int} (h : ratioOk n d = true) : ratOf n d = (n, d) := by
  have e : gcdL [n, d] = 1 := by
    have := ratioOk_cop h
    simpa [gcdL] using this
  rw [ratOf_red (a := n) (b := d) (g := 1) e (by simp) (by simp), if_pos h]
theorem cop_dvd {g : Nat} {n d a x : Int} (hc : Nat.gcd n.natAbs d.natAbs = 1) (hn : ∃ z, n = z * (g : Int)) (hx : a * d = x * g) (hg : 0 < g) : ∃ a' : Int, a = a' * g ∧ x = a' * d := by
  obtain ⟨z, hz⟩ := hn
  have h1 : g ∣ n.natAbs := by rw [hz, Int.natAbs_mul, Int.natAbs_natCast]; exact Nat.dvd_mul_left _ _
  have h2 : Nat.gcd g d.natAbs = 1 := by
    have : Nat.gcd g d.natAbs ∣ Nat.gcd n.natAbs d.natAbs := Nat.dvd_gcd (Nat.dvd_trans (Nat.gcd_dvd_left _ _) h1) (Nat.gcd_dvd_right _ _)
    rw [hc] at this
    exact Nat.dvd_one.1 this
  have h3 : g ∣ a.natAbs * d.natAbs := by rw [← Int.natAbs_mul, hx, Int.natAbs_mul, Int.natAbs_natCast]; exact Nat.dvd_mul_left _ _
  have h4 : g ∣ a.natAbs := Nat.Coprime.dvd_of_dvd_mul_right h2 h3
  obtain ⟨a', ha⟩ := Int.ofNat_dvd_left.2 h4
  have ha' : a = a' * g := by rw [ha, Int.mul_comm]
  refine ⟨a', ha', ?_⟩
  have : x * (g : Int) = a' * d * g := by rw [← hx, ha']; grind
  exact (Int.mul_eq_mul_right_iff (show (g : Int) ≠ 0 by omega)).1 this
theorem far_mul {a' d : Int} (h0 : a' ≠ 0) (hd : 50000 < d) : ¬ (-50000 ≤ a' * d ∧ a' * d ≤ 50000) := by
  rintro ⟨h1, h2⟩
  rcases Int.lt_or_gt_of_ne h0 with h | h
  · have := Int.mul_le_mul_of_nonneg_right (show a' ≤ -1 by omega) (show (0 : Int) ≤ d by omega)
    omega
  · have := Int.mul_le_mul_of_nonneg_right (show 1 ≤ a' by omega) (show (0 : Int) ≤ d by omega)
    omega
theorem top_half {a b n d : Int} (ho : ratioOk n d = true) (hz : a ≠ 0 ∨ b ≠ 0) : topF a b n d = halfOf (a * d) (b * d) n := by
  unfold topF
  by_cases h5 : d ≤ 50000
  · rw [if_pos ⟨ho, h5⟩]
  · rw [if_neg (fun h => h5 h.2)]
    have hd := (ratioOk_bd ho).1
    by_cases hb : halfBad (a * d) (b * d) n
    · unfold halfOf; rw [if_pos hb]
    · have hnz : ¬ (a * d = 0 ∧ b * d = 0 ∧ n = 0) := fun h => by
        rcases hz with h0 | h0
        · exact h0 ((Int.mul_eq_zero.1 h.1).resolve_right (by omega))
        · exact h0 ((Int.mul_eq_zero.1 h.2.1).resolve_right (by omega))
      obtain ⟨g, x, y, z, e, g0, ea, eb, ec, qx, qy, qz⟩ := gcd3_parts hnz
      rw [halfOf_red hb e qx qy qz, if_neg]
      intro hk
      have K := (halfOk_iff _).1 hk
      have hc := ratioOk_cop ho
      obtain ⟨a', ha, hxa⟩ := cop_dvd hc ⟨z, ec⟩ ea g0
      obtain ⟨b', hb', hyb⟩ := cop_dvd hc ⟨z, ec⟩ eb g0
      have k1 := K.ba
      have k2 := K.bb
      simp only at k1 k2
      rcases hz with h0 | h0
      · refine far_mul (a' := a') (d := d) (fun e => h0 (by rw [ha, e, Int.zero_mul])) (by omega) ?_
        rw [← hxa]; exact k1
      · refine far_mul (a' := b') (d := d) (fun e => h0 (by rw [hb', e, Int.zero_mul])) (by omega) ?_
        rw [← hyb]; exact k2
theorem sup_fr {ws : List H3} {a b p q : Int} (kw : regionOk ws = true) (hw : ws ≠ []) (ha : -50000 ≤ a ∧ a ≤ 50000) (hb : -50000 ≤ b ∧ b ≤ 50000) (h : supN a b ws = (p, q)) : ratioOk p q = true ∧ (1 ≤ q ∧ q ≤ 5000000000) ∧ (-500000000000000000 ≤ p ∧ p ≤ 500000000000000000) := by
  obtain ⟨f, _, _⟩ := sup_parts ha hb kw hw
  obtain ⟨g, g0, e1, e2, h0, hok⟩ := ratOf_fr f
  unfold supN at h
  rw [h] at e1 e2 h0 hok
  obtain ⟨f1, f2, f3⟩ := f
  have m1 := mul_le_bd (a := p) (M := 500000000000000000) g0 (by omega) (by simp only at e1; rw [← e1]; exact f1)
  have m2 := mul_le_bd (a := q) (M := 5000000000) g0 (by omega) (by simp only at e2; rw [← e2]; omega)
  simp only at h0
  exact ⟨hok, by omega, m1⟩
def erF (ws : List H3) (g : H3) : H3 × Bool := halfOf (g.a * (supN g.a g.b ws).2) (g.b * (supN g.a g.b ws).2) (g.c * (supN g.a g.b ws).2 - (supN g.a g.b ws).1)
theorem ok_shift {p q c : Int} (h : ratioOk p q = true) (hc : -100000000 ≤ c ∧ c ≤ 100000000) (hq : q ≤ 5000000000) (hp : -500000000000000000 ≤ p ∧ p ≤ 500000000000000000) : ratioOk (c * q - p) q = true ∧ -500000000000000000 ≤ c * q ∧ c * q ≤ 500000000000000000 := by
  have hd := (ratioOk_bd h).1
  have m := mul_bd (x := c) (y := q) (A := 100000000) (B := 5000000000) hc (by omega)
  refine ⟨(ratioOk_parts (by omega) ?_ (by omega)).2 ⟨by omega, by omega, by omega⟩, by omega, by omega⟩
  have hc := ratioOk_cop h
  have : Nat.gcd (c * q - p).natAbs q.natAbs ∣ Nat.gcd p.natAbs q.natAbs := by
    refine Nat.dvd_gcd ?_ (Nat.gcd_dvd_right _ _)
    generalize hG : Nat.gcd (c * q - p).natAbs q.natAbs = G
    have d1 : (G : Int) ∣ c * q - p := Int.ofNat_dvd_left.2 (hG ▸ Nat.gcd_dvd_left _ _)
    have d2 : (G : Int) ∣ q := Int.ofNat_dvd_left.2 (hG ▸ Nat.gcd_dvd_right _ _)
    have d3 : (G : Int) ∣ c * q := Int.dvd_trans d2 (Int.dvd_mul_left _ _)
    have d4 : (G : Int) ∣ c * q - (c * q - p) := Int.dvd_sub d3 d1
    rw [show c * q - (c * q - p) = p by omega] at d4
    exact Int.ofNat_dvd_left.1 d4
  rw [hc] at this
  exact Nat.dvd_one.1 this
theorem erF_top {ws : List H3} {g : H3} {p q : Int} (kw : regionOk ws = true) (hw : ws ≠ []) (k : HOk g) (h : supN g.a g.b ws = (p, q)) : erF ws g = topF g.a g.b (g.c * q - p) q := by
  obtain ⟨ho, hq, hp⟩ := sup_fr kw hw k.ba k.bb h
  obtain ⟨h1, _⟩ := ok_shift ho k.bc (by omega) hp
  unfold erF
  rw [h, top_half h1 k.nz]

theorem mem_makeR {hs : List H3} (ok : ∀ g ∈ hs, HOk g) {g : H3} (h : g ∈ makeR hs) : HOk g := by
  have G := good_sorted ok
  have hne : makeR hs ≠ [] := fun e => by rw [e] at h; cases h
  have e : makeR hs = pickE (sorted4 hs) (sorted4 hs).length := makeE_some (L := sorted4 hs) hne
  rw [e] at h
  exact G.ok g ((pick_mem G g).1 h).1
theorem meetR_ok {hs out : List H3} (ok : ∀ g ∈ hs, HOk g) (h : meetR hs = (out, true)) : regionOk out = true := by
  rw [meetR_makeR ok] at h
  by_cases h4 : 40 < (makeR hs).length
  · rw [if_pos h4] at h; simp at h
  · rw [if_neg h4] at h
    injection h with h _
    by_cases h0 : out = []
    · unfold regionOk; simp [h0]
    · have ok2 : ∀ g ∈ out, HOk g := fun g hg => mem_makeR ok (by rw [h]; exact hg)
      have e : makeR out = out := by rw [← h]; exact makeR_idem ok (by rw [h]; exact h0)
      have hl : out.length ≤ 40 := by rw [← h]; omega
      have ha : out.all halfOk = true := List.all_eq_true.2 fun g hg => (halfOk_iff g).2 (ok2 g hg)
      unfold regionOk fromR
      rw [if_pos ⟨hl, ha⟩, meetR_makeR ok2, e, if_neg (by omega)]
      simp
theorem movedF_ok {F : H3 → H3 × Bool} {hs out : List H3} (hF : ∀ g ∈ hs, (F g).2 = true → HOk (F g).1) (h : movedF F hs = (out, true)) : regionOk out = true := by
  unfold movedF at h
  split at h
  · injection h with h _; subst h; rfl
  · split at h
    · rename_i hall
      refine meetR_ok (fun g hg => ?_) h
      obtain ⟨x, hx, rfl⟩ := List.mem_map.1 hg
      exact hF x hx (List.all_eq_true.1 hall x hx)
    · simp at h
theorem erF_ok {ws : List H3} {g : H3} (h : (erF ws g).2 = true) : HOk (erF ws g).1 := halfOf_ok (v := (erF ws g).2) rfl h
end Go.Proofs.Ytabmfaamadbefaa
