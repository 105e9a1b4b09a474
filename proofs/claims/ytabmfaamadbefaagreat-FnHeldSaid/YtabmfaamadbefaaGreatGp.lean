/- Several texts in one: Gl, Km, Kn, Gp. Each says its own conditions. -/
import Derived.Test.YtabmfaamadbefaaGreatMj
import Derived.Test.YtabmfaamadbefaaGreatHsp
import Derived.Test.YtabmfaamadbefaaGreatLq
/- Plain: the support of a region is the greatest value over all its points; an edge of a met region has a point in both parts. No program. -/
set_option linter.unusedVariables false
set_option linter.unusedSimpArgs false
set_option linter.unusedSectionVars false
namespace Go.Proofs.YtabmfaamadbefaaGreat
theorem edges_cone_any {L : List H3} (G : Good L) (nv : ¬ Void L) (ne : ∃ e ∈ L, Edge L e) {h : H3} (nh : NZ h) : ∃ e g v, e ∈ L ∧ Edge L e ∧ Next L e g v ∧ 0 < cross e h ∧ 0 ≤ cross h g := by
  classical
  have mA : ∀ f, f ∈ L.filter (fun f => decide (Edge L f ∧ 0 < cross f h)) ↔ f ∈ L ∧ Edge L f ∧ 0 < cross f h := fun f => by simp
  have neA : L.filter (fun f => decide (Edge L f ∧ 0 < cross f h)) ≠ [] := by
    intro h0
    have all : ∀ f ∈ L, Edge L f → 0 ≤ cross h f := fun f hf ef => by
      apply Classical.byContradiction; intro hn
      have : f ∈ L.filter (fun f => decide (Edge L f ∧ 0 < cross f h)) := (mA f).2 ⟨hf, ef, by rw [cross_anti]; omega⟩
      rw [h0] at this; cases this
    have mB : ∀ f, f ∈ L.filter (fun f => decide (Edge L f ∧ 0 < cross h f)) ↔ f ∈ L ∧ Edge L f ∧ 0 < cross h f := fun f => by simp
    by_cases hB : L.filter (fun f => decide (Edge L f ∧ 0 < cross h f)) = []
    · have zero : ∀ f ∈ L, Edge L f → cross h f = 0 := fun f hf ef => by
        have := all f hf ef
        apply Classical.byContradiction; intro hn
        have : f ∈ L.filter (fun f => decide (Edge L f ∧ 0 < cross h f)) := (mB f).2 ⟨hf, ef, by omega⟩
        rw [hB] at this; cases this
      obtain ⟨e, he, ee⟩ := ne
      obtain ⟨g, v, N⟩ := next_exists G nv he ee
      have z1 := zero e he ee
      have z2 := zero g N.mg N.eg
      have id := cross_nrm h e g
      rw [z1, z2, Int.mul_zero, Int.mul_zero] at id
      have := Int.mul_pos (nrm_pos nh) N.turn
      omega
    · obtain ⟨g0, hg0, gm⟩ := last_angle (e := h) _ hB (fun f hf => ((mB f).1 hf).2.2)
      obtain ⟨m0, e0, p0⟩ := (mB g0).1 hg0
      obtain ⟨g1, v1, N1⟩ := next_exists G nv m0 e0
      have z1 : cross h g1 = 0 := by
        have a1 := all g1 N1.mg N1.eg
        apply Classical.byContradiction; intro hn
        have := gm g1 ((mB g1).2 ⟨N1.mg, N1.eg, by omega⟩)
        have := N1.turn
        omega
      obtain ⟨g2, v2, N2⟩ := next_exists G nv N1.mg N1.eg
      have a2 := all g2 N2.mg N2.eg
      have id := cross_id4 h g1 g2 g0
      rw [z1, Int.zero_mul] at id
      have q1 := Int.mul_pos p0 N2.turn
      have q2 : cross h g2 * cross g1 g0 ≤ 0 := Int.mul_nonpos_of_nonneg_of_nonpos a2 (by rw [cross_anti]; have := N1.turn; omega)
      omega
  obtain ⟨e, he, em⟩ := last_angle (e := negH h) _ neA (fun f hf => by
    have := ((mA f).1 hf).2.2
    have id : cross (negH h) f = cross f h := by unfold cross negH; grind
    rw [id]; exact this)
  obtain ⟨m0, e0, p0⟩ := (mA e).1 he
  obtain ⟨g, v, N⟩ := next_exists G nv m0 e0
  refine ⟨e, g, v, m0, e0, N, p0, ?_⟩
  apply Classical.byContradiction; intro hn
  have := em g ((mA g).2 ⟨N.mg, N.eg, by rw [cross_anti]; omega⟩)
  have := N.turn
  omega
/-- A corner has the greatest value of a direction. -/
theorem value_max {L : List H3} (G : Good L) (nv : ¬ Void L) (ne : ∃ e ∈ L, Edge L e) {h : H3} (nh : NZ h) : ∃ e g v, e ∈ L ∧ Edge L e ∧ Next L e g v ∧ ∀ x, Inside L x → val h x ≤ val h v := by
  obtain ⟨e, g, v, he, ee, N, p, q⟩ := edges_cone_any G nv ne nh
  refine ⟨e, g, v, he, ee, N, fun x hx => ?_⟩
  have i1 := hx e he
  have i2 := hx g N.mg
  have o1 := N.oe
  have o2 := N.og
  have cq : (0 : Rat) < (cross e g : Rat) := by exact_mod_cast N.turn
  have pq : (0 : Rat) ≤ (cross e h : Rat) := by exact_mod_cast Int.le_of_lt p
  have qq : (0 : Rat) ≤ (cross h g : Rat) := by exact_mod_cast q
  have id : ∀ y : Pt, (cross e g : Rat) * val h y = (cross h g : Rat) * val e y + (cross e h : Rat) * val g y := fun y => by
    rw [crossQ, crossQ, crossQ]; unfold val; grind
  have d1 := id x
  have d2 := id v
  unfold In On at *
  have m1 := Rat.mul_le_mul_of_nonneg_left i1 qq
  have m2 := Rat.mul_le_mul_of_nonneg_left i2 pq
  rw [o1, o2] at d2
  apply Classical.byContradiction; intro hn
  have m4 := Rat.mul_pos cq (show (0 : Rat) < val h x - val h v by grind)
  grind
/-- The same among the corners of a region as they are reckoned. -/
theorem Reg.value_max {hs L : List H3} (R : Reg hs L) (ok : ∀ g ∈ hs, HOk g) (hne : hs ≠ []) {h : H3} (nh : NZ h) : ∃ s ∈ cornersL hs, 0 < s.c ∧ ∀ x, Inside L x → val h x ≤ val h (ptOf (s.a, s.b, s.c)) := by
  have mem : ∀ x, x ∈ hs ↔ x ∈ L ∧ Edge L x := fun x => by rw [← R.edges]; exact pick_mem R.good x
  obtain ⟨e0, he0⟩ := List.exists_mem_of_ne_nil hs hne
  have ne : ∃ e ∈ L, Edge L e := ⟨e0, (mem e0).1 he0⟩
  obtain ⟨e, g, v, he, ee, N, hmax⟩ := Go.Proofs.YtabmfaamadbefaaGreat.value_max R.good R.full ne nh
  obtain ⟨k, hk, rfl⟩ := List.mem_iff_getElem.1 ((mem e).2 ⟨he, ee⟩)
  obtain ⟨i, hi, rfl⟩ := List.mem_iff_getElem.1 ((mem g).2 ⟨N.mg, N.eg⟩)
  have hs0 : Sorted hs := by rw [← R.edges]; exact pick_sorted R.good
  have ei := next_index hs0 R.nz hk hi N.turn fun f hf c1 c2 => next_none R.good N he ((mem f).1 hf).1 c1 c2 ((mem f).1 hf).2
  subst ei
  obtain ⟨hj, w, a, b, c, w0, ec, eh, c0, _⟩ := R.corner_ok ok hk
  have n0 : cross hs[k] hs[(k + 1) % hs.length] ≠ 0 := by have := N.turn; omega
  have nk := R.nz _ (List.getElem_mem hk)
  obtain ⟨p1, p2⟩ := cross_on n0
  have ev : ptOf (crossI hs[k] hs[(k + 1) % hs.length]) = v := pt_eq nk (by have o1 := N.oe; unfold On at p1 o1; rw [p1, o1]) (by rw [p2]; exact ((crossT_on nk n0 N.oe).1 N.og).symm)
  have es : ptOf (a, b, c) = v := by
    rw [← ev, ec]
    have wq : (w : Rat) ≠ 0 := by
      have : (0 : Rat) < (w : Rat) := by exact_mod_cast w0
      grind
    have cq : (c : Rat) ≠ 0 := by
      have : (0 : Rat) < (c : Rat) := by exact_mod_cast c0
      grind
    unfold ptOf
    push_cast
    congr 1 <;> grind
  refine ⟨⟨a, b, c⟩, ?_, c0, fun x hx => by rw [es]; exact hmax x hx⟩
  rw [← eh]
  unfold cornersL
  exact List.mem_map.2 ⟨k, List.mem_range.2 hk, rfl⟩
theorem farN_max {l : List (Int × Int)} (h : ∀ x ∈ l, FrOk x) : ∀ k, k ≤ l.length → ∀ x ∈ l.take k, cmpF x.1 x.2 (farN (l.take k)).1 (farN (l.take k)).2 ≤ 0 := by
  intro k
  induction k with
  | zero => intro _ x hx; simp at hx
  | succ k ih =>
    intro hk x hx
    have hlt : k < l.length := by omega
    have ht : ∀ x ∈ l.take k, FrOk x := fun x hx => h x (List.mem_of_mem_take hx)
    rw [List.take_succ_eq_append_getElem hlt] at hx ⊢
    have hs := (farN_snoc (x := l[k]) ht).1
    rw [hs]
    have pos : ∀ y, FrOk y → 0 < y.2 := fun y hy => by have := hy.2.1; omega
    have px := pos _ (h _ (List.getElem_mem hlt))
    rcases farN_ok ht with ⟨h0, e0, _⟩ | ⟨f, _, _, _⟩
    · have : farGo (l.take k) l[k] = true := by unfold farGo; rw [e0]; simp
      rw [if_pos this]
      rw [h0] at hx
      simp at hx
      subst hx
      simp [cmpF]
    · have pn := pos _ f
      by_cases hg : farGo (l.take k) l[k] = true
      · rw [if_pos hg]
        have hgt : 0 < cmpF l[k].1 l[k].2 (farN (l.take k)).1 (farN (l.take k)).2 := by
          unfold farGo at hg
          simp only [Bool.or_eq_true, decide_eq_true_eq] at hg
          omega
        rcases List.mem_append.1 hx with hx | hx
        · have h1 := ih (by omega) x hx
          have qx := pos _ (ht x hx)
          have l1 := (cmpF_pos (m := l[k]) (n := farN (l.take k)) px pn).1 hgt
          apply Classical.byContradiction; intro hn
          have l2 := (cmpF_pos (m := x) (n := l[k]) qx px).1 (by omega)
          have l3 : ¬ 0 < cmpF x.1 x.2 (farN (l.take k)).1 (farN (l.take k)).2 := by omega
          exact l3 ((cmpF_pos (m := x) (n := farN (l.take k)) qx pn).2 (by grind))
        · rw [List.mem_singleton.1 hx]; simp [cmpF]
      · rw [if_neg hg]
        rcases List.mem_append.1 hx with hx | hx
        · exact ih (by omega) x hx
        · rw [List.mem_singleton.1 hx]
          unfold farGo at hg
          simp only [Bool.or_eq_true, decide_eq_true_eq, not_or] at hg
          omega
/-- No point of a region has more than its support. -/
theorem sup_ge {ws : List H3} {a b p q : Int} (kw : regionOk ws = true) (hw : ws ≠ []) (ha : -50000 ≤ a ∧ a ≤ 50000) (hb : -50000 ≤ b ∧ b ≤ 50000) (hz : a ≠ 0 ∨ b ≠ 0) (h : supN a b ws = (p, q)) {x : Pt} (hx : Inside (sorted4 ws) x) (c : Int) (hc : val ⟨a, b, c⟩ x = (c : Rat)) : c * q ≤ p := by
  obtain ⟨G, hm, _⟩ := regionOk_parts kw hw
  obtain ⟨s, hs, c0, hmax⟩ := (reg_of G hm hw).value_max G hw (h := ⟨a, b, c⟩) hz
  have hv := hmax x hx
  have fo := valsL_ok ha hb kw
  have hin : valS a b s ∈ valsL a b ws := List.mem_map.2 ⟨s, hs, rfl⟩
  have hfm := farN_max fo _ (Nat.le_refl _) (valS a b s) (by rw [List.take_length]; exact hin)
  rw [List.take_length] at hfm
  have f1 := (sup_parts ha hb kw hw).1
  have f2 := fo _ hin
  obtain ⟨g, g0, e1, e2, q0, _⟩ := ratOf_fr f1
  have h' := h
  unfold supN at h'
  rw [h'] at e1 e2 q0
  simp only at e1 e2 q0
  have gq : (0 : Int) < (g : Int) := by omega
  have pos2 : 0 < (farN (valsL a b ws)).2 := by have := f1.2.1; omega
  have hle : (valS a b s).1 * (farN (valsL a b ws)).2 ≤ (farN (valsL a b ws)).1 * (valS a b s).2 := by
    unfold cmpF at hfm
    split at hfm
    · omega
    · split at hfm
      · omega
      · omega
  have hval : (c : Rat) ≤ val ⟨a, b, c⟩ (ptOf (s.a, s.b, s.c)) := by rw [← hc]; exact hv
  have hint : c * s.c ≤ a * s.a + b * s.b := by
    have cq : (0 : Rat) < (s.c : Rat) := by exact_mod_cast c0
    have e : val ⟨a, b, c⟩ (ptOf (s.a, s.b, s.c)) * (s.c : Rat) = (a : Rat) * s.a + (b : Rat) * s.b := by
      unfold val ptOf
      simp only
      grind
    have : (c : Rat) * s.c ≤ (a : Rat) * s.a + (b : Rat) * s.b := by
      rw [← e]
      exact Rat.mul_le_mul_of_nonneg_right hval (by grind)
    exact_mod_cast this
  have v1 : (valS a b s).1 = a * s.a + b * s.b := rfl
  have v2 : (valS a b s).2 = s.c := rfl
  rw [v1, v2, e1, e2] at hle
  -- c * s.c * (q g) ≤ (a s.a + b s.b) (q g) ≤ p g s.c
  have m1 : c * s.c * (q * g) ≤ (a * s.a + b * s.b) * (q * g) := Int.mul_le_mul_of_nonneg_right hint (Int.le_of_lt (Int.mul_pos q0 gq))
  have m2 : c * s.c * (q * g) ≤ p * g * s.c := Int.le_trans m1 hle
  have e3 : c * s.c * (q * g) = c * q * (s.c * g) := by grind
  have e4 : p * g * s.c = p * (s.c * g) := by grind
  rw [e3, e4] at m2
  exact Int.le_of_mul_le_mul_right m2 (Int.mul_pos c0 gq)
/-- An edge of a met region: the first region's support in its direction is at least its bound. -/
theorem meet_sup {ps qs : List H3} {h : H3} {p q : Int} (kp : regionOk ps = true) (hp : ps ≠ []) (okq : ∀ g ∈ qs, HOk g) (hh : h ∈ makeR (ps ++ qs)) (hs : supN h.a h.b ps = (p, q)) : h.c * q ≤ p := by
  obtain ⟨G, hm, _⟩ := regionOk_parts kp hp
  have okA : ∀ g ∈ ps ++ qs, HOk g := fun g hg => (List.mem_append.1 hg).elim (G g) (okq g)
  have GL := good_sorted okA
  have hne : makeE (sorted4 (ps ++ qs)) ≠ [] := fun e => by
    have : h ∈ makeE (sorted4 (ps ++ qs)) := hh
    rw [e] at this; cases this
  have hpk : h ∈ pickE (sorted4 (ps ++ qs)) (sorted4 (ps ++ qs)).length := by rw [← makeE_some hne]; exact hh
  obtain ⟨hm2, ed⟩ := (pick_mem GL h).1 hpk
  obtain ⟨x, _, ox, _, _, ix, _⟩ := ed
  have kh := GL.ok h hm2
  have ixp : Inside (sorted4 ps) x := (inside_sorted G).2 (fun g hg => (inside_sorted okA).1 ix g (by
    rcases List.mem_append.1 hg with hg | hg
    · exact List.mem_append.2 (.inl (List.mem_append.2 (.inl hg)))
    · exact List.mem_append.2 (.inr hg)))
  exact sup_ge kp hp kh.ba kh.bb kh.nz hs ixp h.c ox
end Go.Proofs.YtabmfaamadbefaaGreat
/- Rooms in the laws: the argument opened, its size, the copy, the comparison. Condition: rows of at most 2^20 where said. -/
set_option linter.unusedVariables false
set_option linter.unusedSimpArgs false
set_option linter.unusedSectionVars false
namespace Go.Proofs.YtabmfaamadbefaaGreat
open Go.ChangeShapes Go.WideShapes Go.ChangeAt Go.RowKit Go.Joins Go.Deep
structure RoomV where
  m : List Int
  q : Int
  bx : Int
  by_ : Int
  lo : Int
  hi : Int
  ns : List H3
  ls : List H3
structure RoomV.InL (r : RoomV) : Prop where
  m : r.m.length ≤ 9223372036854775807
  q : -9223372036854775808 ≤ r.q ∧ r.q ≤ 9223372036854775807
  bx : -9223372036854775808 ≤ r.bx ∧ r.bx ≤ 9223372036854775807
  by_ : -9223372036854775808 ≤ r.by_ ∧ r.by_ ≤ 9223372036854775807
  lo : -9223372036854775808 ≤ r.lo ∧ r.lo ≤ 9223372036854775807
  hi : -9223372036854775808 ≤ r.hi ∧ r.hi ≤ 9223372036854775807
  ns : r.ns.length ≤ 9223372036854775807
  ls : r.ls.length ≤ 9223372036854775807
/-- Short rows. -/
structure RoomV.Short (r : RoomV) : Prop where
  m : r.m.length ≤ 1048576
  ns : r.ns.length ≤ 1048576
  ls : r.ls.length ≤ 1048576
def RLM (w : World) (r : RoomV) (A1 A2 A3 : Option Addr) : Prop := RI w A1 r.m ∧ RL w A2 r.ns ∧ RL w A3 r.ls
theorem RLM.below {w w' : World} {r : RoomV} {A1 A2 A3 : Option Addr} (h : RLM w r A1 A2 A3) (hb : Below w.heap.size w w') : RLM w' r A1 A2 A3 := ⟨h.1.below hb, h.2.1.below hb, h.2.2.below hb⟩
/-- A room's rows, at any address. -/
structure RM (w : World) (r : RoomV) (A1 A2 : Option Addr) (c2 : Nat) (A3 : Option Addr) (c3 : Nat) : Prop where
  mr : RI w A1 r.m
  nr : R3 44 w A2 c2 r.ns
  lr : R3 44 w A3 c3 r.ls
theorem RM.below {w w' : World} {r : RoomV} {A1 A2 A3 : Option Addr} {c2 c3 : Nat} (h : RM w r A1 A2 c2 A3 c3) (hb : Below w.heap.size w w') : RM w' r A1 A2 c2 A3 c3 := ⟨h.mr.below hb, h.nr.below hb, h.lr.below hb⟩
/-- A room's rows, each in a block of its own. -/
structure RBM (B : Nat) (w : World) (r : RoomV) (a1 : Nat) (A2 : Option Addr) (c2 : Nat) (A3 : Option Addr) (c3 : Nat) : Prop where
  lo1 : B ≤ a1
  ib : IB a1 w r.m
  nb : RB B 44 w A2 c2 r.ns
  lb : RB B 44 w A3 c3 r.ls
  ap : Apart A2 A3
theorem RBM.below {B : Nat} {w w' : World} {r : RoomV} {a1 : Nat} {A2 A3 : Option Addr} {c2 c3 : Nat} (h : RBM B w r a1 A2 c2 A3 c3) (hb : Below w.heap.size w w') : RBM B w' r a1 A2 c2 A3 c3 := ⟨h.lo1, h.ib.below hb, h.nb.below hb, h.lb.below hb, h.ap⟩
theorem RBM.weak {B B' : Nat} {w : World} {r : RoomV} {a1 : Nat} {A2 A3 : Option Addr} {c2 c3 : Nat} (h : RBM B w r a1 A2 c2 A3 c3) (hb : B' ≤ B) : RBM B' w r a1 A2 c2 A3 c3 := ⟨Nat.le_trans hb h.lo1, h.ib, h.nb.weak hb, h.lb.weak hb, h.ap⟩
theorem RBM.rm {B : Nat} {w : World} {r : RoomV} {a1 : Nat} {A2 A3 : Option Addr} {c2 c3 : Nat} (h : RBM B w r a1 A2 c2 A3 c3) : RM w r (some ⟨a1, 0, none⟩) A2 c2 A3 c3 := ⟨h.ib.ri, h.nb.r3, h.lb.r3⟩

section
variable {H : Type} {enc : TypeId × Value → H} {w : World} {base : Nat} {spare : Nat → Bool} {held : Bool} {n : Nat}
theorem cells_ints : Tryz.prog.cellsOf 23 = 1 := by kernel_rfl
end
def szRm (r : RoomV) (left : Int) : Int := szL r.ls.length (szL r.ns.length (szL r.m.length left))
theorem szL_neg {n : Nat} {l : Int} (h : l < 0) : szL n l = -1 := by unfold szL; rw [if_pos (by omega)]
theorem szL_le {n : Nat} {l : Int} (h : ¬ szL n l < 0) : szL n l = l - n := by
  unfold szL at *
  split at h
  · omega
  · rename_i k; rw [if_neg k]
theorem szL_neg1 {n : Nat} {l : Int} (h : szL n l < 0) : szL n l = -1 := by
  unfold szL at *
  split at h
  · rename_i k; rw [if_pos k]
  · omega
theorem szRm_bd {r : RoomV} {left z : Int} (h : szRm r left = z) (hz : ¬ z < 0) (hl : left ≤ 1048576) : r.m.length ≤ 1048576 ∧ r.ns.length ≤ 1048576 ∧ r.ls.length ≤ 1048576 ∧ z ≤ 1048576 := by
  unfold szRm at h
  subst h
  have a := szL_le hz
  by_cases h2 : szL r.ns.length (szL r.m.length left) < 0
  · exact absurd (by rw [szL_neg h2]; decide) hz
  have b := szL_le h2
  by_cases h1 : szL r.m.length left < 0
  · exact absurd (by rw [szL_neg h1]; decide) h2
  have c := szL_le h1
  omega
theorem IB.set_row {g b : Nat} {T : TypeId} {w : World} {xs : List Int} {cur arr : Array Value} {fr : Nat × Nat} (h : IB g w xs) (hb : w.heap[b]? = some (.cells cur T fr)) (hT : T ≠ 3) : IB g (w.setRow b arr) xs := by
  obtain ⟨cu, h1, h2, h3⟩ := h
  refine ⟨cu, ?_, h2, h3⟩
  rw [setRow_other]
  · exact h1
  · rintro rfl
    rw [h1] at hb
    injection hb with hb; injection hb with _ hb; exact hT hb.symm
def GRoom (r : RoomV) (w0 : World) (v : Value) (w : World) : Prop := ∃ a1 d1 A2 d2 A3 d3, v = .agg #[.slice (some ⟨a1, 0, none⟩) r.m.length d1, .int .i64 r.q, .int .i64 r.bx, .int .i64 r.by_, .int .i64 r.lo, .int .i64 r.hi, .slice A2 r.ns.length d2, .slice A3 r.ls.length d3] ∧ RBM w0.heap.size w r a1 A2 d2 A3 d3
theorem owned_room {T : TypeId} (h1 : T ≠ 44) (h2 : T ≠ 3) (r : RoomV) : Owned T (GRoom r) :=
  ⟨fun w0 v w x ⟨a1, d1, A2, d2, A3, d3, e, R⟩ => ⟨a1, d1, A2, d2, A3, d3, e, R.below (below_ov _ _ (Below.refl _ _) (Nat.le_refl _))⟩,
   fun w0 v w b cur arr hb hs ⟨a1, d1, A2, d2, A3, d3, e, R⟩ => ⟨a1, d1, A2, d2, A3, d3, e, ⟨R.lo1, R.ib.set_row hb h2, R.nb.set_row hb h1, R.lb.set_row hb h1, R.ap⟩⟩⟩
theorem owned_regT {T : TypeId} (h1 : T ≠ 44) (xs : List H3) : Owned T (GReg xs) :=
  ⟨fun w0 v w x ⟨A, c, e, R⟩ => ⟨A, c, e, R.below (below_ov _ _ (Below.refl _ _) (Nat.le_refl _))⟩, fun w0 v w b cur arr hb hs ⟨A, c, e, R⟩ => ⟨A, c, e, R.set_row hb h1⟩⟩
/-- What a call leaves that makes a room. -/
def RoomOut (w : World) (r : RoomV) (e : Ending) (w' : World) : Prop := ∃ a1 d1 A2 d2 A3 d3, e = .returned (.agg #[.slice (some ⟨a1, 0, none⟩) r.m.length d1, .int .i64 r.q, .int .i64 r.bx, .int .i64 r.by_, .int .i64 r.lo, .int .i64 r.hi, .slice A2 r.ns.length d2, .slice A3 r.ls.length d3]) ∧ RBM w.heap.size w' r a1 A2 d2 A3 d3 ∧ Below w.heap.size w w'
end Go.Proofs.YtabmfaamadbefaaGreat
/- Contracts of RoomOk, of the program and of the reference. No condition but that lengths are ints. -/
set_option linter.unusedVariables false
set_option linter.unusedSimpArgs false
set_option linter.unusedSectionVars false
namespace Go.Proofs.YtabmfaamadbefaaGreat
open Go.RowKit
def rangeB (lo hi : Int) : Bool := inR lo (-1000) 1000 && inR hi lo 1000
def roomOk (r : RoomV) : Bool := turnOk r.m r.q && inR r.bx (-100) 100 && inR r.by_ (-100) 100 && rangeB r.lo r.hi && !decide (r.ns.length = 0) && !decide (r.ls.length = 0) && regionOk r.ns && regionOk r.ls
structure RoomP (r : RoomV) : Prop where
  tk : turnOk r.m r.q = true
  bx : -100 ≤ r.bx ∧ r.bx ≤ 100
  by_ : -100 ≤ r.by_ ∧ r.by_ ≤ 100
  lo : -1000 ≤ r.lo ∧ r.lo ≤ 1000
  hi : r.lo ≤ r.hi ∧ r.hi ≤ 1000
  ns : r.ns ≠ []
  ls : r.ls ≠ []
  nk : regionOk r.ns = true
  lk : regionOk r.ls = true
theorem roomOk_parts {r : RoomV} (h : roomOk r = true) : RoomP r := by
  unfold roomOk rangeB at h
  simp only [Bool.and_eq_true, inR_iff, Bool.not_eq_true', decide_eq_false_iff_not] at h
  obtain ⟨⟨⟨⟨⟨⟨⟨h1, h2⟩, h3⟩, h4, h5⟩, h6⟩, h7⟩, h8⟩, h9⟩ := h
  exact ⟨h1, h2, h3, h4, h5, fun e => h6 (by rw [e]; rfl), fun e => h7 (by rw [e]; rfl), h8, h9⟩
theorem isDrive_eq {n : Int} {v : Bool} {w : World} (h : inR n (-100) 100 = v) : Calls Tryz.prog 49 #[.int .i64 n] w fun e w' => e = .returned (.bool v) ∧ w = w' := by
  go_enter Tryz.func49, Tryz.ntmps49
  go_wp2_with ((go_at_call 60; refine (inRange_eq h).mono ?_; rintro e w' ⟨rfl, rfl⟩))
  go_ret
  exact ⟨rfl, rfl⟩
theorem isRange_eq {a b : Int} {v : Bool} {w : World} (h : rangeB a b = v) : Calls Tryz.prog 50 #[.int .i64 a, .int .i64 b] w fun e w' => e = .returned (.bool v) ∧ w = w' := by
  have h' : v = true ↔ (-1000 ≤ a ∧ a ≤ 1000) ∧ a ≤ b ∧ b ≤ 1000 := by rw [← h]; unfold rangeB; rw [Bool.and_eq_true, inR_iff, inR_iff]
  clear h
  by_cases h1 : -1000 ≤ a
  · by_cases h2 : a ≤ b
    · by_cases h3 : b ≤ 1000
      · obtain rfl : v = true := h'.2 ⟨⟨h1, by omega⟩, h2, h3⟩
        clear h'
        go_enter Tryz.func50, Tryz.ntmps50
        go_wp2
        go_ret
        exact ⟨rfl, rfl⟩
      · obtain rfl : v = false := by cases v <;> simp at h' ⊢; omega
        clear h'
        go_enter Tryz.func50, Tryz.ntmps50
        go_wp2
        go_ret
        exact ⟨rfl, rfl⟩
    · obtain rfl : v = false := by cases v <;> simp at h' ⊢; omega
      clear h'
      go_enter Tryz.func50, Tryz.ntmps50
      go_wp2
      go_ret
      exact ⟨rfl, rfl⟩
  · obtain rfl : v = false := by cases v <;> simp at h' ⊢; omega
    clear h'
    go_enter Tryz.func50, Tryz.ntmps50
    go_wp2
    go_ret
    exact ⟨rfl, rfl⟩

set_option maxRecDepth 100000 in
set_option maxHeartbeats 8000000 in
theorem impl_RoomOk_eq {r : RoomV} {v : Bool} {A1 A2 A3 : Option Addr} {c1 c2 c3 : Nat} {w : World} (M : RM w r A1 A2 c2 A3 c3) (hs : r.Short) (h : Hid (roomOk r = v)) :
    Calls Tryz.prog 13 #[.agg #[.slice A1 r.m.length c1, .int .i64 r.q, .int .i64 r.bx, .int .i64 r.by_, .int .i64 r.lo, .int .i64 r.hi, .slice A2 r.ns.length c2, .slice A3 r.ls.length c3]] w fun e w' => e = .returned (.bool v) ∧ Below w.heap.size w w' := by
  have k1 := hs.m
  have k2 := hs.ns
  have k3 := hs.ls
  have hv := h.out
  unfold roomOk at hv
  clear h hs
  obtain ⟨t1, h1⟩ : ∃ t, turnOk r.m r.q = t := ⟨_, rfl⟩
  obtain ⟨t2, h2⟩ : ∃ t, inR r.bx (-100) 100 = t := ⟨_, rfl⟩
  obtain ⟨t3, h3⟩ : ∃ t, inR r.by_ (-100) 100 = t := ⟨_, rfl⟩
  obtain ⟨t4, h4⟩ : ∃ t, rangeB r.lo r.hi = t := ⟨_, rfl⟩
  obtain ⟨t5, h5⟩ : ∃ t, decide (r.ns.length = 0) = t := ⟨_, rfl⟩
  obtain ⟨t6, h6⟩ : ∃ t, decide (r.ls.length = 0) = t := ⟨_, rfl⟩
  obtain ⟨t7, h7⟩ : ∃ t, regionOk r.ns = t := ⟨_, rfl⟩
  obtain ⟨t8, h8⟩ : ∃ t, regionOk r.ls = t := ⟨_, rfl⟩
  rw [h1, h2, h3, h4, h5, h6, h7, h8] at hv
  have H1 := Lib.hid h1
  have H2 := Lib.hid h2
  have H3 := Lib.hid h3
  have H4 := Lib.hid h4
  have H5 := Lib.hid h5
  have H6 := Lib.hid h6
  have H7 := Lib.hid h7
  have H8 := Lib.hid h8
  clear h1 h2 h3 h4 h5 h6 h7 h8
  have hc : (v = false ∧ (t1 = false ∨ (t1 = true ∧ t2 = false) ∨ (t1 = true ∧ t2 = true ∧ t3 = false) ∨ (t1 = true ∧ t2 = true ∧ t3 = true ∧ t4 = false) ∨ (t1 = true ∧ t2 = true ∧ t3 = true ∧ t4 = true ∧ t5 = true) ∨ (t1 = true ∧ t2 = true ∧ t3 = true ∧ t4 = true ∧ t5 = false ∧ t6 = true) ∨ (t1 = true ∧ t2 = true ∧ t3 = true ∧ t4 = true ∧ t5 = false ∧ t6 = false ∧ t7 = false) ∨ (t1 = true ∧ t2 = true ∧ t3 = true ∧ t4 = true ∧ t5 = false ∧ t6 = false ∧ t7 = true ∧ t8 = false))) ∨ (v = true ∧ t1 = true ∧ t2 = true ∧ t3 = true ∧ t4 = true ∧ t5 = false ∧ t6 = false ∧ t7 = true ∧ t8 = true) := by
    revert hv
    cases t1 <;> cases t2 <;> cases t3 <;> cases t4 <;> cases t5 <;> cases t6 <;> cases t7 <;> cases t8 <;> simp <;> exact fun e => e.symm
  clear hv
  rcases hc with ⟨rfl, rfl | ⟨rfl, rfl⟩ | ⟨rfl, rfl, rfl⟩ | ⟨rfl, rfl, rfl, rfl⟩ | ⟨rfl, rfl, rfl, rfl, rfl⟩ | ⟨rfl, rfl, rfl, rfl, rfl, rfl⟩ | ⟨rfl, rfl, rfl, rfl, rfl, rfl, rfl⟩ | ⟨rfl, rfl, rfl, rfl, rfl, rfl, rfl, rfl⟩⟩ | ⟨rfl, rfl, rfl, rfl, rfl, rfl, rfl, rfl, rfl⟩
  all_goals
    go_enter Tryz.func13, Tryz.ntmps13
    go_wp2_with (first | (go_at_call 48; (first | (with_reducible refine (calls_ov2 (isTurnable_eq (by exact M.mr.below (by repeat (first | exact bR | refine bO ?_ | refine bA ?_ | refine bS ?_ | refine bD ?_ | refine bN ?_))) (by omega) H1)).mono ?_) | refine (calls_ov (isTurnable_eq (by exact M.mr.below (by repeat (first | exact bR | refine bO ?_ | refine bA ?_ | refine bS ?_ | refine bD ?_ | refine bN ?_))) (by omega) H1)).mono ?_); rintro e w' ⟨rfl, x, rfl⟩) | (go_at_call 49; refine (isDrive_eq (by first | exact H2.out | exact H3.out)).mono ?_; rintro e w' ⟨rfl, rfl⟩) | (go_at_call 50; refine (isRange_eq H4.out).mono ?_; rintro e w' ⟨rfl, rfl⟩) | (go_at_call 20; (first | (with_reducible refine (calls_ov2 (IsVoid_eq (by first | exact H5 | exact H6))).mono ?_) | refine (calls_ov (IsVoid_eq (by first | exact H5 | exact H6))).mono ?_); rintro e w' ⟨rfl, x, rfl⟩) | (go_at_call 51; (first | (with_reducible refine (calls_ov2 (impl_RegionOk_eq (by first | exact M.nr.below (by repeat (first | exact bR | refine bO ?_ | refine bA ?_ | refine bS ?_ | refine bD ?_ | refine bN ?_)) | exact M.lr.below (by repeat (first | exact bR | refine bO ?_ | refine bA ?_ | refine bS ?_ | refine bD ?_ | refine bN ?_))) (by omega) (by first | exact H7 | exact H8))).mono ?_) | refine (calls_ov (impl_RegionOk_eq (by first | exact M.nr.below (by repeat (first | exact bR | refine bO ?_ | refine bA ?_ | refine bS ?_ | refine bD ?_ | refine bN ?_)) | exact M.lr.below (by repeat (first | exact bR | refine bO ?_ | refine bA ?_ | refine bS ?_ | refine bD ?_ | refine bN ?_))) (by omega) (by first | exact H7 | exact H8))).mono ?_); rintro e w' ⟨rfl, x, rfl⟩))
    go_ret
    exact ⟨rfl, (by repeat (first | exact bR | refine bO ?_ | refine bA ?_ | refine bS ?_ | refine bD ?_ | refine bN ?_))⟩

end Go.Proofs.YtabmfaamadbefaaGreat
/- Plain: growth along a direction, half plane by half plane. No program. -/
set_option linter.unusedSimpArgs false
set_option linter.unusedVariables false
set_option linter.unusedSectionVars false
namespace Go.Proofs.YtabmfaamadbefaaGreat
open Go.RowKit
def maxI (a b : Int) : Int := if a ≤ b then b else a
def growF (bx bY lo hi : Int) (g : H3) : H3 × Bool := halfOf g.a g.b (g.c + max (-lo * (g.a * bx + g.b * bY)) (-hi * (g.a * bx + g.b * bY)))
def sideF (ps : List H3) (a b : Int) : H3 × Bool := halfOf (a * (supN a b ps).2) (b * (supN a b ps).2) (supN a b ps).1
def dirA (bx bY : Int) : Int := -bY / (gcdL [bx, bY] : Nat)
def dirB (bx bY : Int) : Int := bx / (gcdL [bx, bY] : Nat)
structure GrowBd (bx bY lo hi : Int) : Prop where
  bx : -100 ≤ bx ∧ bx ≤ 100
  bY : -100 ≤ bY ∧ bY ≤ 100
  lo : -1000 ≤ lo ∧ lo ≤ 1000
  hi : -1000 ≤ hi ∧ hi ≤ 1000
def growM (ps : List H3) (bx bY lo hi : Int) : List H3 × Bool :=
  if ps = [] ∨ (bx = 0 ∧ bY = 0) then (ps, true)
  else if (sideF ps (dirA bx bY) (dirB bx bY)).2 = true ∧ (sideF ps (-dirA bx bY) (-dirB bx bY)).2 = true ∧ ps.all (fun g => (growF bx bY lo hi g).2) = true then
    meetR ((sideF ps (dirA bx bY) (dirB bx bY)).1 :: (sideF ps (-dirA bx bY) (-dirB bx bY)).1 :: ps.map fun g => (growF bx bY lo hi g).1)
  else ([], false)
def growOk (ps : List H3) (bx bY lo hi : Int) : Bool := inR bx (-100) 100 && inR bY (-100) 100 && rangeB lo hi && decide (ps.length ≤ 38) && regionOk ps
def growR (ps : List H3) (bx bY lo hi : Int) : List H3 × Bool := if growOk ps bx bY lo hi = true then growM ps bx bY lo hi else ([], false)
theorem growOk_parts {ps : List H3} {bx bY lo hi : Int} (h : growOk ps bx bY lo hi = true) : GrowBd bx bY lo hi ∧ ps.length ≤ 38 ∧ regionOk ps = true := by
  unfold growOk rangeB at h
  simp only [Bool.and_eq_true, inR_iff, decide_eq_true_eq] at h
  obtain ⟨⟨⟨⟨h1, h2⟩, h3, h4⟩, h5⟩, h6⟩ := h
  exact ⟨⟨h1, h2, h3, by omega⟩, h5, h6⟩
theorem growM_short {ps out : List H3} {bx bY lo hi : Int} {ok : Bool} (hl : ps.length ≤ 1000) (h : growM ps bx bY lo hi = (out, ok)) : out.length ≤ 1000 := by
  unfold growM at h
  split at h
  · simp at h; rw [← h.1]; exact hl
  · split at h
    · have := meetR_short h; omega
    · simp at h; rw [h.1]; simp
theorem growR_short {ps out : List H3} {bx bY lo hi : Int} {ok : Bool} (h : growR ps bx bY lo hi = (out, ok)) : out.length ≤ 1000 := by
  unfold growR at h
  split at h
  · rename_i hc
    have := (growOk_parts hc).2.1
    exact growM_short (by omega) h
  · simp at h; rw [h.1]; simp
theorem growF_ok {bx bY lo hi : Int} {g : H3} (h : (growF bx bY lo hi g).2 = true) : HOk (growF bx bY lo hi g).1 := halfOf_ok (v := (growF bx bY lo hi g).2) rfl h
theorem sideF_ok {ps : List H3} {a b : Int} (h : (sideF ps a b).2 = true) : HOk (sideF ps a b).1 := halfOf_ok (v := (sideF ps a b).2) rfl h
theorem growM_ok {ps out : List H3} {bx bY lo hi : Int} (hp : regionOk ps = true) (h : growM ps bx bY lo hi = (out, true)) : regionOk out = true := by
  unfold growM at h
  split at h
  · injection h with h _; rw [← h]; exact hp
  · split at h
    · rename_i hc
      refine meetR_ok (fun g hg => ?_) h
      rcases List.mem_cons.1 hg with rfl | hg
      · exact sideF_ok hc.1
      · rcases List.mem_cons.1 hg with rfl | hg
        · exact sideF_ok hc.2.1
        · obtain ⟨x, hx, rfl⟩ := List.mem_map.1 hg
          exact growF_ok (List.all_eq_true.1 hc.2.2 x hx)
    · simp at h
theorem meetR_perm {l m : List H3} (ok : ∀ g ∈ l, HOk g) (h : ∀ x, x ∈ l ↔ x ∈ m) : meetR l = meetR m := by
  rw [meetR_makeR ok, meetR_makeR (fun g hg => ok g ((h g).2 hg)), makeR_mem_ext ok h]
theorem grow_bd {bx bY lo hi : Int} {g : H3} (k : HOk g) (B : GrowBd bx bY lo hi) :
    (-5000000 ≤ g.a * bx ∧ g.a * bx ≤ 5000000) ∧ (-5000000 ≤ g.b * bY ∧ g.b * bY ≤ 5000000) ∧ (-10000000000 ≤ -lo * (g.a * bx + g.b * bY) ∧ -lo * (g.a * bx + g.b * bY) ≤ 10000000000) ∧ (-10000000000 ≤ -hi * (g.a * bx + g.b * bY) ∧ -hi * (g.a * bx + g.b * bY) ≤ 10000000000) := by
  have h1 := mul_bd (x := g.a) (y := bx) k.ba B.bx
  have h2 := mul_bd (x := g.b) (y := bY) k.bb B.bY
  have hl := B.lo
  have hh := B.hi
  have h3 := mul_bd (x := -lo) (y := g.a * bx + g.b * bY) (A := 1000) (B := 10000000) (by omega) (by omega)
  have h4 := mul_bd (x := -hi) (y := g.a * bx + g.b * bY) (A := 1000) (B := 10000000) (by omega) (by omega)
  exact ⟨by omega, by omega, by omega, by omega⟩
theorem dir_bd {bx bY : Int} (h1 : -100 ≤ bx ∧ bx ≤ 100) (h2 : -100 ≤ bY ∧ bY ≤ 100) (h0 : ¬ (bx = 0 ∧ bY = 0)) :
    ∃ (g : Nat) (a b : Int), gcdL [bx, bY] = g ∧ 0 < g ∧ g ≤ 100 ∧ -bY = a * g ∧ bx = b * g ∧ dirA bx bY = a ∧ dirB bx bY = b ∧ (-100 ≤ a ∧ a ≤ 100) ∧ (-100 ≤ b ∧ b ≤ 100) ∧ (a ≠ 0 ∨ b ≠ 0) := by
  have e : gcdL [bx, bY] = Nat.gcd bx.natAbs bY.natAbs := by simp [gcdL]
  have g0 : 0 < Nat.gcd bx.natAbs bY.natAbs := by
    by_cases hb : bx = 0
    · exact Nat.gcd_pos_of_pos_right _ (by omega)
    · exact Nat.gcd_pos_of_pos_left _ (by omega)
  have g1 : Nat.gcd bx.natAbs bY.natAbs ≤ 100 := by
    by_cases hb : bx = 0
    · exact Nat.le_trans (Nat.gcd_le_right _ (by omega)) (by omega)
    · exact Nat.le_trans (Nat.gcd_le_left _ (by omega)) (by omega)
  obtain ⟨b, hb⟩ : ((Nat.gcd bx.natAbs bY.natAbs : Nat) : Int) ∣ bx := Int.ofNat_dvd_left.2 (Nat.gcd_dvd_left _ _)
  obtain ⟨a', ha'⟩ : ((Nat.gcd bx.natAbs bY.natAbs : Nat) : Int) ∣ bY := Int.ofNat_dvd_left.2 (Nat.gcd_dvd_right _ _)
  generalize hg : Nat.gcd bx.natAbs bY.natAbs = g at *
  have ea : -bY = -a' * g := by rw [ha']; grind
  have eb : bx = b * g := by rw [hb, Int.mul_comm]
  have ma := mul_le_bd (a := -a') (M := 100) g0 (by omega) (by rw [← ea]; omega)
  have mb := mul_le_bd (a := b) (M := 100) g0 (by omega) (by rw [← eb]; exact h1)
  refine ⟨g, -a', b, e, g0, g1, ea, eb, ?_, ?_, ma, mb, ?_⟩
  · unfold dirA; rw [e, ea]; exact Int.mul_ediv_cancel _ (by omega)
  · unfold dirB; rw [e, eb]; exact Int.mul_ediv_cancel _ (by omega)
  · apply Classical.byContradiction
    intro hn
    have ha0 : -a' = 0 := by omega
    have hb0 : b = 0 := by omega
    rw [ha0, Int.zero_mul] at ea
    rw [hb0, Int.zero_mul] at eb
    omega
end Go.Proofs.YtabmfaamadbefaaGreat