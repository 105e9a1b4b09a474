/- Regions as lists of half planes, no program: the program's way to find the edges and the reference's give the same list. Condition: valid half planes, the frame among them. -/
import Derived.Test.YtnenlgaafiifpaaGeoD
namespace Go.Proofs.Ytnenlgaafiifpaa

def frameH : List H3 := [⟨1, 0, 1000⟩, ⟨0, 1, 1000⟩, ⟨-1, 0, 1000⟩, ⟨0, -1, 1000⟩]

/-- A sorted list of valid half planes, within the frame. -/
structure Good (L : List H3) : Prop where
  sorted : Sorted L
  ok : ∀ g ∈ L, HOk g
  frame : ∀ k ∈ frameH, ∃ y ∈ L, Tle y k

theorem Good.nz {L : List H3} (G : Good L) : AllNZ L := fun g hg => (G.ok g hg).nz

theorem frameH_ok : ∀ k ∈ frameH, HOk k := by
  intro k hk
  simp only [frameH, List.mem_cons, List.not_mem_nil, or_false] at hk
  rcases hk with rfl | rfl | rfl | rfl <;> exact ⟨by simp, by simp, by simp, by simp [NZ], by simp [Prim, gcdL3]⟩

theorem Tle.in {y k : H3} (ny : NZ y) (nk : NZ k) (t : Tle y k) {p : Pt} (h : In y p) : In k p := by
  obtain ⟨ea, eb⟩ := prop_of_sameDir ny nk t.1
  have q1 : (y.a : Rat) * (sizeH k : Rat) = (k.a : Rat) * (sizeH y : Rat) := by exact_mod_cast ea
  have q2 : (y.b : Rat) * (sizeH k : Rat) = (k.b : Rat) * (sizeH y : Rat) := by exact_mod_cast eb
  have q3 : (y.c : Rat) * (sizeH k : Rat) ≤ (k.c : Rat) * (sizeH y : Rat) := by exact_mod_cast t.2
  have sk : (0 : Rat) < (sizeH k : Rat) := by exact_mod_cast size_pos nk
  have sy : (0 : Rat) < (sizeH y : Rat) := by exact_mod_cast size_pos ny
  have e : val k p * (sizeH y : Rat) = val y p * (sizeH k : Rat) := by unfold val; grind
  unfold In at *
  apply Classical.byContradiction; intro hn
  have m1 := Rat.mul_pos sy (show (0 : Rat) < val k p - k.c by grind)
  have m2 := Rat.mul_le_mul_of_nonneg_left (c := (sizeH k : Rat)) h (by grind)
  grind

theorem framed_pt {p : Pt} (h : ∀ k ∈ frameH, In k p) : -1000 ≤ p.x ∧ p.x ≤ 1000 ∧ -1000 ≤ p.y ∧ p.y ≤ 1000 := by
  have h1 := h ⟨1, 0, 1000⟩ (by simp [frameH])
  have h2 := h ⟨0, 1, 1000⟩ (by simp [frameH])
  have h3 := h ⟨-1, 0, 1000⟩ (by simp [frameH])
  have h4 := h ⟨0, -1, 1000⟩ (by simp [frameH])
  unfold In val at h1 h2 h3 h4
  push_cast at h1 h2 h3 h4
  exact ⟨by grind, by grind, by grind, by grind⟩

theorem Good.framed {L : List H3} (G : Good L) : Framed L := fun p hp => framed_pt fun k hk => by
  obtain ⟨y, hy, t⟩ := G.frame k hk
  exact t.in (G.nz y hy) (frameH_ok k hk).nz (hp y hy)

theorem cross_same_right {h k y : H3} (ny : NZ y) (nk : NZ k) (p : sameDir y k = true) : cross h y * sizeH k = cross h k * sizeH y := by
  obtain ⟨p1, p2⟩ := prop_of_sameDir ny nk p
  unfold cross; grind
theorem cross_self (h : H3) : cross h h = 0 := by unfold cross; rw [Int.mul_comm]; omega

theorem Good.both {L : List H3} (G : Good L) {h : H3} {rest : List H3} (o : Others L h rest) : Both h rest := by
  have nh := o.nh
  have get : ∀ k ∈ frameH, cross h k ≠ 0 → ∃ g ∈ rest, (0 < cross h k → 0 < cross h g) ∧ (cross h k < 0 → cross h g < 0) := by
    intro k hk hc
    obtain ⟨y, hy, t⟩ := G.frame k hk
    have e := cross_same_right (h := h) (G.nz y hy) (frameH_ok k hk).nz t.1
    have sk := size_pos (frameH_ok k hk).nz
    have sy := size_pos (G.nz y hy)
    have p1 : 0 < cross h k → 0 < cross h y := fun c => pos_of_mul_pos sk (by rw [e]; exact Int.mul_pos c sy)
    have p2 : cross h k < 0 → cross h y < 0 := fun c => by
      have : 0 < (-cross h y) := pos_of_mul_pos sk (by
        have : 0 < (-cross h k) * sizeH y := Int.mul_pos (by omega) sy
        grind)
      omega
    refine ⟨y, ?_, p1, p2⟩
    rcases (o.mem y).1 hy with rfl | hy
    · rw [cross_self] at p1 p2; omega
    · exact hy
  have c1 : cross h ⟨1, 0, 1000⟩ = -h.b := by simp [cross]
  have c2 : cross h ⟨0, 1, 1000⟩ = h.a := by simp [cross]
  have c3 : cross h ⟨-1, 0, 1000⟩ = h.b := by simp [cross]
  have c4 : cross h ⟨0, -1, 1000⟩ = -h.a := by simp [cross]
  unfold NZ at nh
  by_cases hb : h.b = 0
  · have ha : h.a ≠ 0 := by omega
    obtain ⟨g2, m2, p2, q2⟩ := get ⟨0, 1, 1000⟩ (by simp [frameH]) (by omega)
    obtain ⟨g4, m4, p4, q4⟩ := get ⟨0, -1, 1000⟩ (by simp [frameH]) (by omega)
    by_cases hp : 0 < h.a
    · exact ⟨⟨g4, m4, q4 (by omega)⟩, ⟨g2, m2, p2 (by omega)⟩⟩
    · exact ⟨⟨g2, m2, q2 (by omega)⟩, ⟨g4, m4, p4 (by omega)⟩⟩
  · obtain ⟨g1, m1, p1, q1⟩ := get ⟨1, 0, 1000⟩ (by simp [frameH]) (by omega)
    obtain ⟨g3, m3, p3, q3⟩ := get ⟨-1, 0, 1000⟩ (by simp [frameH]) (by omega)
    by_cases hp : 0 < h.b
    · exact ⟨⟨g1, m1, q1 (by omega)⟩, ⟨g3, m3, p3 (by omega)⟩⟩
    · exact ⟨⟨g3, m3, q3 (by omega)⟩, ⟨g1, m1, p1 (by omega)⟩⟩

theorem mem_eraseIdx_iff {l : List H3} {k : Nat} (hk : k < l.length) (g : H3) : g ∈ l ↔ g = l[k] ∨ g ∈ l.eraseIdx k := by
  constructor
  · intro hg
    obtain ⟨i, hi, e⟩ := List.mem_iff_getElem.1 hg
    by_cases h : i = k
    · subst h; exact .inl e.symm
    · refine .inr ?_
      rw [List.mem_eraseIdx_iff_getElem]
      exact ⟨i, hi, h, e⟩
  · rintro (rfl | hg)
    · exact List.getElem_mem hk
    · exact List.mem_of_mem_eraseIdx hg

theorem sorted_get {l : List H3} (hs : Sorted l) {i j : Nat} (hi : i < l.length) (hj : j < l.length) (hij : i < j) : before l[i] l[j] = true :=
  List.pairwise_iff_getElem.1 hs i j hi hj hij

theorem Good.others {L : List H3} (G : Good L) {k : Nat} (hk : k < L.length) : Others L L[k] (L.eraseIdx k) := by
  refine ⟨mem_eraseIdx_iff hk, fun g hg => ?_, G.nz⟩
  rw [List.mem_eraseIdx_iff_getElem] at hg
  obtain ⟨i, hi, hne, rfl⟩ := hg
  rw [Bool.eq_false_iff]
  intro hs
  rcases Nat.lt_or_gt_of_ne hne with h | h
  · have := sameDir_not_before (sameDir_symm hs); rw [sorted_get G.sorted hi hk h] at this; cases this
  · have := sameDir_not_before hs; rw [sorted_get G.sorted hk hi h] at this; cases this

/-- The program's test, for the half plane with index k: an edge; no room. -/
def edgeI (L : List H3) (k : Nat) (h : H3) : Bool × Bool :=
  match scanS h (L.eraseIdx k) with
  | none => (false, true)
  | some (some f, some t) => (decide (cmpF f.1 f.2 t.1 t.2 < 0), false)
  | some _ => (false, false)

theorem edgeI_spec {L : List H3} (G : Good L) {k : Nat} (hk : k < L.length) :
    ((edgeI L k L[k]).2 = true ∧ ∃ g ∈ L.eraseIdx k, cross L[k] g = 0 ∧ leaves g L[k] = false) ∨
    ((edgeI L k L[k]).2 = false ∧ (∀ g ∈ L.eraseIdx k, cross L[k] g = 0 → leaves g L[k] = true) ∧ ((edgeI L k L[k]).1 = true ↔ Edge L L[k])) := by
  have o := G.others hk
  rcases edge_scan o (G.both o) with ⟨e, hv⟩ | ⟨f, t, e, hp, _, _, he⟩
  · exact .inl ⟨by simp [edgeI, e], hv⟩
  · refine .inr ⟨by simp [edgeI, e], hp, ?_⟩
    rw [he]; simp [edgeI, e]

/-- The reference's test. -/
def edgeE (L : List H3) (k : Nat) (h : H3) : Bool := (scanE L h (L.eraseIdx k)).2
theorem edgeE_spec {L : List H3} (G : Good L) {k : Nat} (hk : k < L.length) : edgeE L k L[k] = true ↔ Edge L L[k] :=
  scanE_edge (G.others hk) (G.both (G.others hk)) G.ok G.framed

/-! ### No room -/
def Void (L : List H3) : Prop := ∃ g ∈ L, ∃ h ∈ L, sameDir h g = false ∧ cross h g = 0 ∧ leaves g h = false

theorem void_on {L : List H3} (G : Good L) {g h : H3} (hg : g ∈ L) (hh : h ∈ L) (d : sameDir h g = false) (k : cross h g = 0) (v : leaves g h = false) {p : Pt} (hp : Inside L p) : On h p := by
  obtain ⟨e1, e2⟩ := opp_prop (G.nz h hh) (G.nz g hg) k d
  have q1 : (g.a : Rat) * (sizeH h : Rat) = -(h.a : Rat) * (sizeH g : Rat) := by exact_mod_cast e1
  have q2 : (g.b : Rat) * (sizeH h : Rat) = -(h.b : Rat) * (sizeH g : Rat) := by exact_mod_cast e2
  have sh : (0 : Rat) < (sizeH h : Rat) := by exact_mod_cast size_pos (G.nz h hh)
  have sg : (0 : Rat) < (sizeH g : Rat) := by exact_mod_cast size_pos (G.nz g hg)
  unfold leaves at v
  simp only [decide_eq_false_iff_not] at v
  have vq : (g.c : Rat) * (sizeH h : Rat) + (h.c : Rat) * (sizeH g : Rat) ≤ 0 := by exact_mod_cast (by omega : g.c * sizeH h + h.c * sizeH g ≤ 0)
  have e : val g p * (sizeH h : Rat) = -val h p * (sizeH g : Rat) := by unfold val; grind
  have i1 := hp g hg
  have i2 := hp h hh
  unfold In at i1 i2; unfold On
  have m1 := Rat.mul_le_mul_of_nonneg_left (c := (sizeH h : Rat)) i1 (by grind)
  apply Classical.byContradiction; intro hn
  have m2 := Rat.mul_pos sg (show (0 : Rat) < h.c - val h p by grind)
  grind

theorem two_on_par {e h : H3} (nh : NZ h) {p q : Pt} (o1 : On e p) (o2 : On e q) (p1 : On h p) (p2 : On h q) (hne : prm e p ≠ prm e q) : cross h e = 0 := by
  apply Classical.byContradiction; intro k
  have t1 := (crossT_on nh k p1).1 o1
  have t2 := (crossT_on nh k p2).1 o2
  have : p = q := pt_eq nh (by unfold On at p1 p2; rw [p1, p2]) (by rw [t1, t2])
  rw [this] at hne; exact hne rfl

theorem Good.neg_dir {L : List H3} (G : Good L) {h e : H3} (hh : h ∈ L) (k : cross h e = 0) : sameDir h e = true ∨ sameDir (negH h) e = true := by
  by_cases d : sameDir h e = true
  · exact .inl d
  · refine .inr ?_
    have d' : sameDir h e = false := by simpa using d
    rw [sameDir_iff]
    refine ⟨by unfold cross negH; unfold cross at k; simp only; grind, ?_⟩
    rw [upB_neg (G.nz h hh)]
    rw [Bool.eq_false_iff, Ne, sameDir_iff] at d'
    cases e1 : upB h <;> cases e2 : upB e <;> simp_all

/-- Three half planes of a sorted list are not all parallel to one. -/
theorem three_par {L : List H3} (G : Good L) {h a b c : H3} (hh : h ∈ L) (ha : a ∈ L) (hb : b ∈ L) (hc : c ∈ L) (ka : cross h a = 0) (kb : cross h b = 0) (kc : cross h c = 0) : a = b ∨ a = c ∨ b = c := by
  have nn : NZ (negH h) := by have := G.nz h hh; unfold NZ negH at *; simp only; omega
  have nh := G.nz h hh
  have j : ∀ x y : H3, x ∈ L → y ∈ L → ∀ z : H3, NZ z → sameDir z x = true → sameDir z y = true → x = y := fun x y hx hy z nz s1 s2 =>
    sorted_same_eq G.sorted hx hy (sameDir_trans (G.nz x hx) nz (G.nz y hy) (sameDir_symm s1) s2)
  rcases G.neg_dir hh ka with sa | sa <;> rcases G.neg_dir hh kb with sb | sb <;> rcases G.neg_dir hh kc with sc | sc
  · exact .inl (j a b ha hb h nh sa sb)
  · exact .inl (j a b ha hb h nh sa sb)
  · exact .inr (.inl (j a c ha hc h nh sa sc))
  · exact .inr (.inr (j b c hb hc _ nn sb sc))
  · exact .inr (.inr (j b c hb hc h nh sb sc))
  · exact .inr (.inl (j a c ha hc _ nn sa sc))
  · exact .inl (j a b ha hb _ nn sa sb)
  · exact .inl (j a b ha hb _ nn sa sb)

/-! ### The next edge -/
/-- Of half planes on one side of e, the one with the greatest angle. -/
theorem last_angle {e : H3} : ∀ (A : List H3), A ≠ [] → (∀ f ∈ A, 0 < cross e f) → ∃ g ∈ A, ∀ f ∈ A, cross g f ≤ 0 := by
  intro A
  induction A with
  | nil => intro h _; exact absurd rfl h
  | cons x r ih =>
    intro _ hp
    by_cases hr : r = []
    · subst hr
      exact ⟨x, List.mem_cons_self, fun f hf => by rw [List.mem_singleton.1 hf, cross_self]; exact Int.le_refl _⟩
    · obtain ⟨g, hg, hm⟩ := ih hr (fun f hf => hp f (List.mem_cons_of_mem _ hf))
      have px := hp x List.mem_cons_self
      have pg := hp g (List.mem_cons_of_mem _ hg)
      by_cases hx : cross g x ≤ 0
      · refine ⟨g, List.mem_cons_of_mem _ hg, fun f hf => ?_⟩
        rcases List.mem_cons.1 hf with rfl | hf
        · exact hx
        · exact hm f hf
      · refine ⟨x, List.mem_cons_self, fun f hf => ?_⟩
        rcases List.mem_cons.1 hf with rfl | hf
        · rw [cross_self]; exact Int.le_refl _
        · have pf := hp f (List.mem_cons_of_mem _ hf)
          have h1 := hm f hf
          have id : cross g f * cross e x = cross g x * cross e f + cross x f * cross e g := by unfold cross; grind
          apply Classical.byContradiction; intro hn
          have m1 : cross g f * cross e x ≤ 0 := Int.mul_nonpos_of_nonpos_of_nonneg h1 (by omega)
          have m2 : 0 < cross g x * cross e f := Int.mul_pos (by omega) pf
          have m3 : 0 < cross x f * cross e g := Int.mul_pos (by omega) pg
          omega

theorem exists_min (S : H3 → Rat) : ∀ (A : List H3), A ≠ [] → ∃ g ∈ A, ∀ f ∈ A, S g ≤ S f := by
  intro A
  induction A with
  | nil => intro h; exact absurd rfl h
  | cons x r ih =>
    intro _
    by_cases hr : r = []
    · subst hr; exact ⟨x, List.mem_cons_self, fun f hf => by rw [List.mem_singleton.1 hf]; exact Rat.le_refl⟩
    · obtain ⟨g, hg, hm⟩ := ih hr
      by_cases hx : S g ≤ S x
      · refine ⟨g, List.mem_cons_of_mem _ hg, fun f hf => ?_⟩
        rcases List.mem_cons.1 hf with rfl | hf
        · exact hx
        · exact hm f hf
      · refine ⟨x, List.mem_cons_self, fun f hf => ?_⟩
        rcases List.mem_cons.1 hf with rfl | hf
        · exact Rat.le_refl
        · have := hm f hf; grind

/-- g is the edge that follows e. -/
structure Next (L : List H3) (e g : H3) (v : Pt) : Prop where
  eg : Edge L g
  mg : g ∈ L
  turn : 0 < cross e g
  oe : On e v
  og : On g v
  iv : Inside L v

theorem Good.others_of {L : List H3} (G : Good L) {h : H3} (hh : h ∈ L) : ∃ rest, Others L h rest := by
  obtain ⟨k, hk, e⟩ := List.mem_iff_getElem.1 hh
  exact ⟨L.eraseIdx k, e ▸ G.others hk⟩

theorem next_exists {L : List H3} (G : Good L) (nv : ¬ Void L) {e : H3} (he : e ∈ L) (ed : Edge L e) : ∃ g v, Next L e g v := by
  obtain ⟨rest, o⟩ := G.others_of he
  obtain ⟨b1, b2⟩ := G.both o
  -- the farther end of e
  have mA : ∀ g, g ∈ rest.filter (fun g => decide (0 < cross e g)) ↔ g ∈ rest ∧ 0 < cross e g := fun g => by simp
  have neA : rest.filter (fun g => decide (0 < cross e g)) ≠ [] := by
    obtain ⟨g, hg, k⟩ := b2
    intro h0; have := (mA g).2 ⟨hg, k⟩; rw [h0] at this; cases this
  obtain ⟨gt, hgt, tmin⟩ := exists_min (crossT e) _ neA
  obtain ⟨hgt1, hgt2⟩ := (mA gt).1 hgt
  obtain ⟨p, q, op, oq, hlt, ip, iq⟩ := ed
  obtain ⟨a1, a2, a3⟩ := (inside_iff o op).1 ip
  obtain ⟨c1, c2, c3⟩ := (inside_iff o oq).1 iq
  have tq : prm e q ≤ crossT e gt := c2 gt hgt1 hgt2
  have nz := o.nh
  have ov := ptAt_on nz (crossT e gt)
  have pv := ptAt_prm nz (crossT e gt)
  generalize ptAt e (crossT e gt) = v at ov pv
  have iv : Inside L v := by
    rw [inside_iff o ov, pv]
    refine ⟨a1, fun g hg k => tmin g ((mA g).2 ⟨hg, k⟩), fun g hg k => ?_⟩
    have := c3 g hg k; grind
  -- of those that meet it, the one with the greatest angle
  have mB : ∀ g, g ∈ (rest.filter (fun g => decide (0 < cross e g))).filter (fun g => decide (crossT e g = crossT e gt)) ↔ (g ∈ rest ∧ 0 < cross e g) ∧ crossT e g = crossT e gt := fun g => by simp only [List.mem_filter, decide_eq_true_eq]
  obtain ⟨g, hg, gmax⟩ := last_angle (e := e) _ (by intro h0; have := (mB gt).2 ⟨⟨hgt1, hgt2⟩, rfl⟩; rw [h0] at this; cases this) (fun f hf => ((mB f).1 hf).1.2)
  obtain ⟨⟨hg1, hg2⟩, hg3⟩ := (mB g).1 hg
  have mgL : g ∈ L := (o.mem g).2 (.inr hg1)
  have og : On g v := (crossT_on nz (by omega) ov).2 (by rw [pv, hg3])
  obtain ⟨rest', o'⟩ := G.others_of mgL
  obtain ⟨d1, d2⟩ := G.both o'
  -- whoever turns on from g does not meet v
  have strict : ∀ f ∈ rest', 0 < cross g f → prm g v < crossT g f := by
    intro f hf k
    have fL : f ∈ L := (o'.mem f).2 (.inr hf)
    have le := (in_iff_pos o'.nh k og).1 (iv f fL)
    apply Classical.byContradiction; intro hn
    have eqv : prm g v = crossT g f := by grind
    have ofv : On f v := (crossT_on o'.nh (by omega) og).2 eqv
    rcases (o.mem f).1 fL with rfl | fr
    · rw [cross_anti] at k; omega
    · rcases Int.lt_trichotomy (cross e f) 0 with kk | kk | kk
      · have t1 := (crossT_on nz (by omega) ov).1 ofv
        have t2 := (in_iff_neg nz kk op).1 (ip f fL)
        grind
      · apply nv
        refine ⟨f, fL, e, he, o.dir f fr, kk, ?_⟩
        obtain ⟨e1, e2⟩ := opp_prop nz (o.ng fr) kk (o.dir f fr)
        have q1 : (f.a : Rat) * (sizeH e : Rat) = -(e.a : Rat) * (sizeH f : Rat) := by exact_mod_cast e1
        have q2 : (f.b : Rat) * (sizeH e : Rat) = -(e.b : Rat) * (sizeH f : Rat) := by exact_mod_cast e2
        have z : (f.c : Rat) * (sizeH e : Rat) + (e.c : Rat) * (sizeH f : Rat) = 0 := by
          unfold On val at ofv ov; rw [← ofv, ← ov]; grind
        have zi : f.c * sizeH e + e.c * sizeH f = 0 := by exact_mod_cast z
        unfold leaves; rw [zi]; rfl
      · have t1 := (crossT_on nz (by omega) ov).1 ofv
        have := gmax f ((mB f).2 ⟨⟨fr, kk⟩, by rw [← t1, pv]⟩)
        omega
  have mC : ∀ f, f ∈ rest'.filter (fun f => decide (0 < cross g f)) ↔ f ∈ rest' ∧ 0 < cross g f := fun f => by simp
  obtain ⟨ft, hft, fmin⟩ := exists_min (crossT g) (rest'.filter fun f => decide (0 < cross g f)) (by
    obtain ⟨f, hf, k⟩ := d2
    intro h0; have := (mC f).2 ⟨hf, k⟩; rw [h0] at this; cases this)
  obtain ⟨hft1, hft2⟩ := (mC ft).1 hft
  obtain ⟨w1, w2, w3⟩ := (inside_iff o' og).1 iv
  have ow := ptAt_on o'.nh (crossT g ft)
  have pw := ptAt_prm o'.nh (crossT g ft)
  generalize ptAt g (crossT g ft) = w at ow pw
  have hvw := strict ft hft1 hft2
  have iw : Inside L w := by
    rw [inside_iff o' ow, pw]
    refine ⟨w1, fun f hf k => fmin f ((mC f).2 ⟨hf, k⟩), fun f hf k => ?_⟩
    have := w3 f hf k; grind
  exact ⟨g, v, ⟨⟨v, w, og, ow, by rw [pw]; exact hvw, iv, iw⟩, mgL, hg2, ov, og, iv⟩⟩

/-- Between an edge and the next one there is no edge. -/
theorem next_none {L : List H3} (G : Good L) {e g f : H3} {v : Pt} (n : Next L e g v) (he : e ∈ L) (hf : f ∈ L) (k1 : 0 < cross e f) (k2 : 0 < cross f g) : ¬ Edge L f := by
  rintro ⟨p, q, op, oq, hlt, ip, iq⟩
  have a1 : (0 : Rat) < (cross f g : Rat) := by exact_mod_cast k2
  have a2 : (0 : Rat) < (cross e f : Rat) := by exact_mod_cast k1
  have a3 : (0 : Rat) < (cross e g : Rat) := by exact_mod_cast n.turn
  have id : ∀ w : Pt, (cross e g : Rat) * val f w = (cross f g : Rat) * val e w + (cross e f : Rat) * val g w := fun w => by
    rw [crossQ, crossQ, crossQ]; unfold val; grind
  have key : ∀ w : Pt, On f w → Inside L w → On e w ∧ On g w := by
    intro w ow iw
    have v1 := id v
    have w1 := id w
    have ie := iw e he
    have ig := iw g n.mg
    have fv := n.iv f hf
    have oe := n.oe
    have og := n.og
    unfold On at ow oe og ⊢; unfold In at ie ig fv
    rw [oe, og] at v1
    rw [ow] at w1
    have m1 := Rat.mul_le_mul_of_nonneg_left (c := (cross e g : Rat)) fv (by grind)
    constructor
    · apply Classical.byContradiction; intro hn
      have m2 := Rat.mul_pos a1 (show (0 : Rat) < e.c - val e w by grind)
      have m3 := Rat.mul_le_mul_of_nonneg_left (c := (cross e f : Rat)) ig (by grind)
      grind
    · apply Classical.byContradiction; intro hn
      have m2 := Rat.mul_pos a2 (show (0 : Rat) < g.c - val g w by grind)
      have m3 := Rat.mul_le_mul_of_nonneg_left (c := (cross f g : Rat)) ie (by grind)
      grind
  obtain ⟨x1, y1⟩ := key p op ip
  obtain ⟨x2, y2⟩ := key q oq iq
  have := two_on_par (G.nz e he) op oq x1 x2 (by grind)
  omega
end Go.Proofs.Ytnenlgaafiifpaa
